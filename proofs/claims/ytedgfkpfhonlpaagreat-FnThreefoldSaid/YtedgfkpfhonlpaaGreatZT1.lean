/- Lemmas (1). -/
import Derived.Test.YtedgfkpfhonlpaaGreatZT0
set_option linter.unusedSimpArgs false
set_option linter.unusedVariables false
namespace Go.Proofs.YtedgfkpfhonlpaaGreat
open Go.RowKit
section
def levOk:Int→List Int→Prop
 | _,[] => True
 | p,x :: xs => 1 ≤ x∧x ≤ p + 1∧levOk x xs
theorem levOk_iff:∀ (xs:List Int) (p:Int),levOk p xs ↔ ∀ i,i < xs.length→1 ≤ (p :: xs).getD (i + 1) 0∧(p :: xs).getD (i + 1) 0 ≤ (p :: xs).getD i 0 + 1
 | [],p => by simp [levOk]
 | x :: xs,p => by
  unfold levOk
  rw [levOk_iff xs x]
  constructor
  ·rintro ⟨h1,h2,h3⟩ i hi
   cases i with
   | zero => simpa using ⟨h1,h2⟩
   | succ i => simpa using h3 i (by simpa using hi)
  ·intro h
   refine ⟨?_,?_,fun i hi => ?_⟩
   ·simpa using (h 0 (by simp)).1
   ·simpa using (h 0 (by simp)).2
   ·simpa using h (i + 1) (by simpa using hi)
theorem LevP_iff (t:List Int):qY t ↔ ∃ xs,t = 0 :: xs∧levOk 0 xs:=by
 constructor
 ·intro h
  cases t with
  | nil => have:=h.pos;simp at this
  | cons x xs =>
   have h0:=h.zero h.pos
   simp at h0;subst h0
   refine ⟨xs,rfl,(levOk_iff xs 0).2 fun i hi => ?_⟩
   exact h.2 i (by simp;omega) (by simpa using hi)
 ·rintro ⟨xs,rfl,h⟩
  refine ⟨by simp,fun i _ hi => ?_⟩
  exact (levOk_iff xs 0).1 h i (by simpa using hi)
theorem levOk_append:∀ (xs ys:List Int) (p:Int),0 ≤ p→levOk p xs→(∀ q,0 ≤ q→levOk q ys)→levOk p (xs ++ ys)
 | [],ys,p,hp,_,h => h p hp
 | x :: xs,ys,p,hp,⟨h1,h2,h3⟩,h => ⟨h1,h2,levOk_append xs ys x (by omega) h3 h⟩
theorem levOk_shift:∀ (xs:List Int) (p:Int),levOk p xs→levOk (p + 1) (xs.map (· + 1))
 | [],_,_ => trivial
 | x :: xs,p,⟨h1,h2,h3⟩ => ⟨by show 1 ≤ x + 1;omega,by show x + 1 ≤ p + 1 + 1;omega,levOk_shift xs x h3⟩
def qT (bs:List (List Int)):List Int:=0 :: bs.flatMap (·.map (· + 1))
theorem kN {bs:List (List Int)} (h:∀ b ∈ bs,qY b):qY (qT bs):=by
 rw [LevP_iff]
 refine ⟨_,rfl,?_⟩
 have:∀ q,0 ≤ q→levOk q (bs.flatMap (·.map (· + 1))):=by
  induction bs with
  | nil => intro q _;trivial
  | cons b bs ih =>
   intro q hq
   rw [List.flatMap_cons]
   obtain ⟨xs,rfl,hx⟩:=(LevP_iff b).1 (h b (by simp))
   refine levOk_append _ _ q hq ⟨by simp,by simp;omega,?_⟩ (ih fun b hb => h b (by simp [hb]))
   exact levOk_shift xs 0 hx
 exact this 0 (Int.le_refl 0)
def qJ (bs:List (List Int)):Nat:=(bs.map List.length).sum
theorem xA (bs:List (List Int)):(qT bs).length = qJ bs + 1:=by
 unfold qT qJ
 induction bs with
 | nil => rfl
 | cons b bs ih => simp only [List.flatMap_cons,List.length_cons,List.length_append,List.length_map,List.map_cons,List.sum_cons] at *;omega
theorem wW (bs:List (List Int)) (b:List Int):qT (bs ++ [b]) = qT bs ++ b.map (· + 1):=by
 simp [qT,List.flatMap_append]
theorem xR {l m:List (List Int)} (h:l.Perm m):qJ l = qJ m:=(h.map List.length).sum_nat
theorem kR (l m:List (List Int)):qJ (l ++ m) = qJ l + qJ m:=by simp [qJ]
theorem yX {l:List (List Int)} {b:List Int} (h:b ∈ l):b.length ≤ qJ l:=by
 unfold qJ
 induction l with
 | nil => simp at h
 | cons a l ih =>
  rw [List.map_cons,List.sum_cons]
  rcases List.mem_cons.1 h with rfl|h
  ·omega
  ·have:=ih h;omega
theorem brStep_root (acc:List (List Int)) (l:Int) (h:l = 1 ∨ 0 < acc.length):qT (xQ acc l) = qT acc ++ [l]:=by
 by_cases e:l = 1
 ·subst e
  rw [kD,wW];rfl
 ·have hp:=h.resolve_left e
  rw [vQ acc l e hp]
  obtain ⟨bs,b,rfl⟩:∃ bs b,acc = bs ++ [b]:=⟨acc.dropLast,acc.getLast (by intro e;rw [e] at hp;simp at hp),(List.dropLast_concat_getLast _).symm⟩
  simp only [List.length_append,List.length_singleton,Nat.add_sub_cancel,List.getElem_append_right (Nat.le_refl _),Nat.sub_self,List.getElem_singleton]
  rw [List.set_append_right _ _ (Nat.le_refl _),Nat.sub_self]
  show qT (bs ++ [b ++ [l - 1]]) = _
  rw [wW,wW,List.append_assoc,List.map_append]
  congr 2
  simp
theorem brTo_root {t:List Int} (h:qY t):∀ k,k + 1 ≤ t.length→qT (brTo t k) = t.take (k + 1)
 | 0,hk => by
  have h0:=h.zero h.pos
  obtain ⟨xs,rfl,_⟩:=(LevP_iff t).1 h
  simp [brTo,qT]
 | k + 1,hk => by
  rw [xX t k hk,brStep_root,brTo_root h k (by omega)]
  ·rw [List.take_succ_eq_append_getElem (i:=k + 1) hk]
  ·cases k with
   | zero =>
    left
    have h1:=h.succ hk
    have h0:=h.zero h.pos
    simp at h1 ⊢;omega
   | succ k => right;exact wJ h k (by omega)
theorem rootOn_brs {t:List Int} (h:qY t):qT (brs t) = t:=by
 rw [← wN t (t.length - 1) (by omega),brTo_root h (t.length - 1) (by have:=h.pos;omega)]
 rw [List.take_of_length_le (by omega)]
theorem xB {t:List Int} (h:qY t):qJ (brs t) + 1 = t.length:=by
 have:=xA (brs t)
 rw [rootOn_brs h] at this
 omega
theorem yH0:∀ (ys:List Int) (acc:List (List Int)) (b:List Int),(∀ y ∈ ys,y ≠ 1)→ys.foldl xQ (acc ++ [b]) = acc ++ [b ++ ys.map (· - 1)]
 | [],acc,b,_ => by simp
 | y :: ys,acc,b,h => by
  rw [List.foldl_cons,vQ _ _ (h y (by simp)) (by simp)]
  simp only [List.length_append,List.length_singleton,Nat.add_sub_cancel,List.getElem_append_right (Nat.le_refl _),Nat.sub_self,List.getElem_singleton]
  rw [List.set_append_right _ _ (Nat.le_refl _),Nat.sub_self]
  show ys.foldl xQ (acc ++ [b ++ [y - 1]]) = _
  rw [yH0 ys acc _ (fun y hy => h y (by simp [hy]))]
  simp
theorem levOk_ge:∀ (xs:List Int) (p:Int),levOk p xs→∀ x ∈ xs,1 ≤ x
 | x :: xs,p,⟨h1,_,h3⟩,y,hy => by
  rcases List.mem_cons.1 hy with rfl|hy
  ·exact h1
  ·exact levOk_ge xs x h3 y hy
theorem vW {bs:List (List Int)} (h:∀ b ∈ bs,qY b):brs (qT bs) = bs:=by
 unfold brs qT
 rw [List.drop_one,List.tail_cons]
 have:∀ (cs:List (List Int)),(∀ b ∈ cs,qY b)→∀ acc,(cs.flatMap (·.map (· + 1))).foldl xQ acc = acc ++ cs:=by
  intro cs
  induction cs with
  | nil => intro _ acc;simp
  | cons b cs ih =>
   intro hc acc
   obtain ⟨xs,rfl,hx⟩:=(LevP_iff b).1 (hc b (by simp))
   rw [List.flatMap_cons,List.foldl_append,List.map_cons,List.foldl_cons]
   rw [show (0:Int) + 1 = 1 from rfl,kD,yH0]
   ·rw [ih (fun b hb => hc b (by simp [hb]))]
    simp [Function.comp_def]
   ·intro y hy
    obtain ⟨x,hx',rfl⟩:=List.mem_map.1 hy
    have:=levOk_ge xs 0 hx x hx'
    omega
 simpa using this bs h []
def canonF:Nat→List Int→List Int
 | 0,_ => [0]
 | f + 1,t => qT (sortC cmpD ((brs t).map (canonF f)))
def canon (t:List Int):List Int:=canonF t.length t
theorem canonF_eq:∀ (f:Nat) {t:List Int},qY t→t.length ≤ f→canonF f t = canon t:=by
 have key:∀ (n f g:Nat) (t:List Int),qY t→t.length ≤ n→t.length ≤ f→t.length ≤ g→canonF f t = canonF g t:=by
  intro n
  induction n with
  | zero => intro f g t h hn;have:=h.pos;omega
  | succ n ih =>
   intro f g t h hn hf hg
   have hp:=h.pos
   obtain ⟨f,rfl⟩:∃ f',f = f' + 1:=⟨f - 1,by omega⟩
   obtain ⟨g,rfl⟩:∃ g',g = g' + 1:=⟨g - 1,by omega⟩
   simp only [canonF]
   congr 2
   apply List.map_congr_left
   intro b hb
   have:=yA h b hb
   exact ih f g b (jX h b hb) (by omega) (by omega) (by omega)
 intro f t h hf
 exact key t.length f t.length t h (Nat.le_refl _) hf (Nat.le_refl _)
theorem xD {t:List Int} (h:qY t):canon t = qT (sortC cmpD ((brs t).map canon)):=by
 have hp:=h.pos
 obtain ⟨n,hn⟩:∃ n,t.length = n + 1:=⟨t.length - 1,by omega⟩
 unfold canon
 rw [hn]
 simp only [canonF]
 congr 2
 apply List.map_congr_left
 intro b hb
 have:=yA h b hb
 exact canonF_eq n (jX h b hb) (by omega)
theorem canon_both {t:List Int}:qY t→qY (canon t)∧(canon t).length = t.length:=by
 have key:∀ (n:Nat) (t:List Int),qY t→t.length ≤ n→qY (canon t)∧(canon t).length = t.length:=by
  intro n
  induction n with
  | zero => intro t h hn;have:=h.pos;omega
  | succ n ih =>
   intro t h hn
   rw [xD h]
   have hb:∀ b ∈ brs t,qY (canon b)∧(canon b).length = b.length:=fun b hb => ih b (jX h b hb) (by have:=yA h b hb;omega)
   refine ⟨kN fun c hc => ?_,?_⟩
   ·rw [yQ,List.mem_map] at hc
    obtain ⟨b,hb',rfl⟩:=hc
    exact (hb b hb').1
   ·rw [xA,xR (jE _),← xB h]
    congr 1
    unfold qJ
    rw [List.map_map]
    congr 1
    apply List.map_congr_left
    intro b hb'
    exact (hb b hb').2
 exact fun h => key t.length t h (Nat.le_refl _)
theorem yE {t:List Int} (h:qY t):qY (canon t):=(canon_both h).1
theorem xN {t:List Int} (h:qY t):(canon t).length = t.length:=(canon_both h).2
theorem kH {t:List Int}:qY t→canon (canon t) = canon t:=by
 have key:∀ (n:Nat) (t:List Int),qY t→t.length ≤ n→canon (canon t) = canon t:=by
  intro n
  induction n with
  | zero => intro t h hn;have:=h.pos;omega
  | succ n ih =>
   intro t h hn
   have hc:=yE h
   have e:=xD h
   have hbs:∀ c ∈ sortC cmpD ((brs t).map canon),qY c:=by
    intro c hc
    rw [yQ,List.mem_map] at hc
    obtain ⟨b,hb',rfl⟩:=hc
    exact yE (jX h b hb')
   rw [xD hc,e,vW hbs]
   congr 1
   have:(sortC cmpD ((brs t).map canon)).map canon = sortC cmpD ((brs t).map canon):=by
    rw [List.map_congr_left (g:=id),List.map_id]
    intro c hc
    rw [yQ,List.mem_map] at hc
    obtain ⟨b,hb',rfl⟩:=hc
    exact ih b (jX h b hb') (by have:=yA h b hb';omega)
   rw [this]
   exact yA0 cmpD_cmp (xF cmpD_cmp _)
 exact fun h => key t.length t h (Nat.le_refl _)
theorem xE {t:List Int} (h:lev8 t = true):qY t:=by
 unfold lev8 levB at h
 simp at h
 exact h.2
theorem xG {t:List Int} (h:lev8 t = true):t.length ≤ 8:=by
 unfold lev8 at h
 simp at h
 exact h.1
theorem lev8_mk {t:List Int} (h:qY t) (h8:t.length ≤ 8):lev8 t = true:=by
 unfold lev8 levB
 simp [h,h8]
end
section
def mP (n:Int):Int:=n % 10007
section
variable {κ:Type} (c:κ→κ→Int)
def putS:List (Int × κ)→Int→κ→List (Int × κ)
 | [],k,x => if k = 0 then [] else [(k,x)]
 | (a,y) :: L,k,x => if k = 0 then (a,y) :: L else if c x y < 0 then (k,x) :: (a,y) :: L
   else if c x y = 0 then (if mP (a + k) = 0 then L else (mP (a + k),y) :: L) else (a,y) :: putS L k x
def addS (L:List (Int × κ)) (M:List (Int × κ)):List (Int × κ):=M.foldl (fun s q => putS c s q.1 q.2) L
def sumS (M:List (Int × κ)):List (Int × κ):=addS c [] M
end
section
variable {κ:Type} {c:κ→κ→Int} (hc:Cmp c)
include hc
theorem Cmp.eq_swap {a b:κ} (h:c a b = 0):c b a = 0:=by rw [hc.zero a b h];exact hc.refl b
theorem Cmp.lt_tr {a b d:κ} (h1:c a b < 0) (h2:c b d < 0):c a d < 0:=by
 rcases Int.lt_trichotomy (c a d) 0 with h|h|h
 ·exact h
 ·have:=hc.zero a d h
  subst this
  have:=(hc.anti a b).1 h1
  omega
 ·have:=hc.trans a b d (by omega) (by omega)
  omega
omit hc
include hc
end
end
section
def thenC {α:Type} (f:α→Int) (c:α→α→Int) (a b:α):Int:=if f a = f b then c a b else f a - f b
def lexC {α:Type} (c:α→α→Int):List α→List α→Int
 | [],[] => 0
 | [],_ :: _ => -1
 | _ :: _,[] => 1
 | a :: xs,b :: bs => if c a b = 0 then lexC c xs bs else c a b
theorem thenC_cmp {α:Type} {f:α→Int} {c:α→α→Int} (h:Cmp c):Cmp (thenC f c) where
 zero a b e:=by
  unfold thenC at e
  split at e
  ·exact h.zero a b e
  ·omega
 refl a:=by unfold thenC;rw [if_pos rfl];exact h.refl a
 anti a b:=by
  unfold thenC
  by_cases e:f a = f b
  ·rw [if_pos e,if_pos e.symm];exact h.anti a b
  ·rw [if_neg e,if_neg (fun k => e k.symm)];omega
 trans a b d h1 h2:=by
  unfold thenC at h1 h2 ⊢
  split at h1 <;> split at h2 <;> split <;> first|omega|(exact h.trans a b d h1 h2)
theorem Cmp.sym0 {α:Type} {c:α→α→Int} (h:Cmp c) {a b:α} (e:c a b = 0):c b a = 0:=by rw [h.zero a b e];exact h.refl b
theorem lexC_cmp {α:Type} {c:α→α→Int} (h:Cmp c):Cmp (lexC c) where
 zero:=by
  intro a
  induction a with
  | nil => intro b e;cases b with
   | nil => rfl
   | cons y bs => simp [lexC] at e
  | cons x xs ih => intro b e;cases b with
   | nil => simp [lexC] at e
   | cons y bs =>
    unfold lexC at e
    split at e
    ·rename_i h1;rw [h.zero x y h1,ih bs e]
    ·rename_i h1;exact absurd e h1
 refl:=by
  intro a
  induction a with
  | nil => rfl
  | cons x xs ih => unfold lexC;rw [if_pos (h.refl x)];exact ih
 anti:=by
  intro a
  induction a with
  | nil => intro b;cases b <;> simp [lexC]
  | cons x xs ih => intro b;cases b with
   | nil => simp [lexC]
   | cons y bs =>
    unfold lexC
    by_cases e:c x y = 0
    ·rw [if_pos e,if_pos (h.sym0 e)];exact ih bs
    ·rw [if_neg e,if_neg (fun k => e (h.sym0 k))];exact h.anti x y
 trans:=by
  intro a
  induction a with
  | nil => intro b d _ h2;cases d with
   | nil => simp [lexC]
   | cons z ds => simp [lexC]
  | cons x xs ih => intro b d h1 h2;cases b with
   | nil => simp [lexC] at h1
   | cons y bs => cases d with
    | nil => simp [lexC] at h2
    | cons z ds =>
     unfold lexC at h1 h2 ⊢
     have l1:c x y ≤ 0:=by split at h1 <;> omega
     have l2:c y z ≤ 0:=by split at h2 <;> omega
     have l3:=h.trans x y z l1 l2
     by_cases e:c x z = 0
     ·rw [if_pos e]
      obtain rfl:=h.zero x z e
      have e1:c x y = 0:=by
       rcases Int.lt_trichotomy (c x y) 0 with k|k|k
       ·have:=(h.anti x y).1 k;omega
       ·exact k
       ·omega
      rw [if_pos e1] at h1
      rw [if_pos (h.sym0 e1)] at h2
      exact ih bs ds h1 h2
     ·rw [if_neg e];exact l3
def cmpF:List (List Int)→List (List Int)→Int:=thenC (fun f => (qJ f:Int)) (thenC (fun f => (f.length:Int)) (lexC cmpT))
theorem cmpF_cmp:Cmp cmpF:=thenC_cmp (thenC_cmp (lexC_cmp yL))
def sgn (n:Int):Int:=if n < 0 then -1 else if n = 0 then 0 else 1
end
section
section
variable {α:Type} {c:α→α→Int} (hc:Cmp c)
include hc
end
def mulF (f g:List (List Int)):List (List Int):=sortC cmpT (f ++ g)
theorem mulF_len (f g:List (List Int)):(mulF f g).length = f.length + g.length:=by unfold mulF;rw [kV,List.length_append]
theorem mulF_sum (f g:List (List Int)):qJ (mulF f g) = qJ f + qJ g:=by
 unfold mulF;rw [xR (jE _)];simp [qJ]
def prodL (d e:List (Int × List (List Int))):List (Int × List (List Int)):=d.flatMap fun p => e.map fun q => (mP (p.1 * q.1),mulF p.2 q.2)
def cmpN:List (List Int)→List (List Int)→Int:=thenC (fun f => (f.length:Int)) (lexC cmpT)
theorem cmpN_eq (f g:List (List Int)):cmpN f g = if (f.length:Int) = g.length then lexC cmpT f g else (f.length:Int) - g.length:=rfl
theorem cmpF_N (f g:List (List Int)):cmpF f g = if (qJ f:Int) = qJ g then cmpN f g else (qJ f:Int) - qJ g:=rfl
end
section
section
variable {κ:Type} (c:κ→κ→Int)
def putN:List (κ × Int)→Int→κ→List (κ × Int)
 | [],k,x => [(x,k)]
 | p :: L,k,x => if c x p.1 < 0 then (x,k) :: p :: L else if c x p.1 = 0 then (p.1,p.2 + k) :: L else p :: putN L k x
def expN (L:List (κ × Int)):List κ:=L.flatMap fun p => List.replicate p.2.toNat p.1
def NfN (L:List (κ × Int)):Prop:=L.Pairwise (fun p q => c p.1 q.1 < 0)∧∀ q ∈ L,1 ≤ q.2
def IsN (L:List (κ × Int)) (M:List κ):Prop:=NfN c L∧(expN L).Perm M
end
section
variable {κ:Type} {c:κ→κ→Int}
theorem jM (p:κ × Int) (L:List (κ × Int)):expN (p :: L) = List.replicate p.2.toNat p.1 ++ expN L:=rfl
theorem kS (L M:List (κ × Int)):expN (L ++ M) = expN L ++ expN M:=by simp [expN]
theorem expN_mem {L:List (κ × Int)} {x:κ} (h:x ∈ expN L):∃ p ∈ L,p.1 = x:=by
 obtain ⟨p,hp,h⟩:=List.mem_flatMap.1 h
 exact ⟨p,hp,(List.eq_of_mem_replicate h).symm⟩
theorem mem_expN {L:List (κ × Int)} {p:κ × Int} (h:p ∈ L) (h1:1 ≤ p.2):p.1 ∈ expN L :=
 List.mem_flatMap.2 ⟨p,h,List.mem_replicate.2 ⟨by omega,rfl⟩⟩
theorem NfN.nil:NfN c []:=⟨List.Pairwise.nil,fun q hq => nomatch hq⟩
theorem IsN.nil:IsN c [] []:=⟨NfN.nil,List.Perm.refl _⟩
theorem IsN.perm {L:List (κ × Int)} {M M':List κ} (h:IsN c L M) (hp:M.Perm M'):IsN c L M':=⟨h.1,h.2.trans hp⟩
theorem NfN.tail {p:κ × Int} {L:List (κ × Int)} (h:NfN c (p :: L)):NfN c L:=⟨(List.pairwise_cons.1 h.1).2,fun q hq => h.2 q (List.mem_cons_of_mem _ hq)⟩
variable (hc:Cmp c)
include hc
theorem NfN.ext:∀ {L L':List (κ × Int)},NfN c L→NfN c L'→(expN L).Perm (expN L')→L = L'
 | [],[],_,_,_ => rfl
 | [],q :: L',_,h',hp => by
  have:=hp.length_eq
  have h1:=h'.2 q (by simp)
  rw [jM,List.length_append,List.length_replicate] at this
  simp [expN] at this;omega
 | p :: L,[],h,_,hp => by
  have:=hp.length_eq
  have h1:=h.2 p (by simp)
  rw [jM,List.length_append,List.length_replicate] at this
  simp [expN] at this;omega
 | p :: L,q :: L',h,h',hp => by
  have hp1:=h.2 p (by simp)
  have hq1:=h'.2 q (by simp)
  have low:∀ {p:κ × Int} {L:List (κ × Int)},NfN c (p :: L)→∀ x ∈ expN (p :: L),c p.1 x ≤ 0:=fun {p L} h x hx => by
   obtain ⟨r,hr,rfl⟩:=expN_mem hx
   rcases List.mem_cons.1 hr with rfl|hr
   ·rw [hc.refl];omega
   ·have:=(List.pairwise_cons.1 h.1).1 r hr;omega
  have e1:=low h q.1 (hp.mem_iff.2 (mem_expN (by simp) hq1))
  have e2:=low h' p.1 (hp.mem_iff.1 (mem_expN (by simp) hp1))
  have ek:p.1 = q.1:=by
   apply hc.zero
   rcases Int.lt_or_eq_of_le e1 with e|e
   ·have:=(hc.anti _ _).1 e;omega
   ·exact e
  have no:∀ {p:κ × Int} {L:List (κ × Int)},NfN c (p :: L)→p.1 ∉ expN L:=fun {p L} h hx => by
   obtain ⟨r,hr,e⟩:=expN_mem hx
   have:=(List.pairwise_cons.1 h.1).1 r hr
   rw [e,hc.refl] at this;omega
  have hcnt:∀ {p:κ × Int} {L:List (κ × Int)},NfN c (p :: L)→(expN (p :: L)).countP (fun x => decide (c p.1 x = 0)) = p.2.toNat:=fun {p L} h => by
   rw [jM,List.countP_append,List.countP_replicate,if_pos (by simp [hc.refl])]
   have:(expN L).countP (fun x => decide (c p.1 x = 0)) = 0:=List.countP_eq_zero.2 fun x hx => by
    have:c p.1 x ≠ 0:=fun e => no h (by rw [hc.zero _ _ e];exact hx)
    simpa using this
   omega
  have c1:=hcnt h
  have c2:=hcnt h'
  rw [← ek,← hp.countP_eq] at c2
  have en:p.2 = q.2:=by omega
  have epq:p = q:=Prod.ext ek en
  subst epq
  rw [jM,jM,List.perm_append_left_iff] at hp
  rw [NfN.ext h.tail h'.tail hp]
theorem IsN.ext {L L':List (κ × Int)} {M M':List κ} (h:IsN c L M) (h':IsN c L' M') (hp:M.Perm M'):L = L' :=
 NfN.ext hc h.1 h'.1 (h.2.trans (hp.trans h'.2.symm))
theorem putN_exp:∀ (L:List (κ × Int)) (k:Int) (x:κ),(∀ q ∈ L,1 ≤ q.2)→1 ≤ k→(expN (putN c L k x)).Perm (expN L ++ List.replicate k.toNat x)
 | [],k,x,_,_ => by simp [putN,expN]
 | p :: L,k,x,h,hk => by
  unfold putN
  split
  ·rw [jM];exact List.perm_append_comm
  ·split
   ·rename_i e
    rw [jM,jM,hc.zero _ _ e]
    have:=h p (by simp)
    show (List.replicate (p.2 + k).toNat p.1 ++ expN L).Perm _
    rw [show (p.2 + k).toNat = p.2.toNat + k.toNat by omega,← List.replicate_append_replicate,List.append_assoc,List.append_assoc]
    exact (List.perm_append_left_iff _).2 List.perm_append_comm
   ·rw [jM,jM,List.append_assoc]
    exact (List.perm_append_left_iff _).2 (putN_exp L k x (fun q hq => h q (by simp [hq])) hk)
omit hc in
theorem putN_mem:∀ (L:List (κ × Int)) (k:Int) (x:κ) {q:κ × Int},q ∈ putN c L k x→q.1 = x ∨ ∃ p ∈ L,p.1 = q.1
 | [],k,x,q,h => by
  obtain rfl:q = (x,k):=by simpa [putN] using h
  exact .inl rfl
 | p :: L,k,x,q,h => by
  unfold putN at h
  split at h
  ·rcases List.mem_cons.1 h with rfl|h
   ·exact .inl rfl
   ·exact .inr ⟨q,h,rfl⟩
  ·split at h
   ·rcases List.mem_cons.1 h with rfl|h
    ·exact .inr ⟨p,by simp,rfl⟩
    ·exact .inr ⟨q,by simp [h],rfl⟩
   ·rcases List.mem_cons.1 h with rfl|h
    ·exact .inr ⟨q,by simp,rfl⟩
    ·rcases putN_mem L k x h with h|⟨r,h1,h2⟩
     ·exact .inl h
     ·exact .inr ⟨r,by simp [h1],h2⟩
theorem putN_nf:∀ {L:List (κ × Int)} {k:Int} {x:κ},NfN c L→1 ≤ k→NfN c (putN c L k x)
 | [],k,x,_,hk => ⟨by simp [putN],fun q hq => by
   have:q = (x,k):=by simpa [putN] using hq
   rw [this];exact hk⟩
 | p :: L,k,x,h,hk => by
  have h1:=List.pairwise_cons.1 h.1
  have h2:=h.2 p (by simp)
  unfold putN
  split
  ·rename_i hlt
   refine ⟨List.pairwise_cons.2 ⟨fun q hq => ?_,h.1⟩,fun q hq => ?_⟩
   ·rcases List.mem_cons.1 hq with rfl|hq
    ·exact hlt
    ·exact hc.lt_tr hlt (h1.1 q hq)
   ·rcases List.mem_cons.1 hq with rfl|hq
    ·exact hk
    ·exact h.2 q hq
  ·split
   ·refine ⟨List.pairwise_cons.2 ⟨h1.1,h1.2⟩,fun q hq => ?_⟩
    rcases List.mem_cons.1 hq with rfl|hq
    ·show 1 ≤ p.2 + k;omega
    ·exact h.2 q (by simp [hq])
   ·rename_i n1 n2
    have ih:=putN_nf (x:=x) h.tail hk
    refine ⟨List.pairwise_cons.2 ⟨fun q hq => ?_,ih.1⟩,fun q hq => ?_⟩
    ·rcases putN_mem L k x hq with e|⟨r,hr,e⟩
     ·rw [e,hc.anti];omega
     ·rw [← e];exact h1.1 r hr
    ·rcases List.mem_cons.1 hq with rfl|hq
     ·exact h2
     ·exact ih.2 q hq
theorem IsN.put {L:List (κ × Int)} {M:List κ} (h:IsN c L M) {k:Int} {x:κ} (hk:1 ≤ k):IsN c (putN c L k x) (M ++ List.replicate k.toNat x) :=
 ⟨putN_nf hc h.1 hk,(putN_exp hc L k x h.1.2 hk).trans ((List.perm_append_right_iff _).2 h.2)⟩
theorem IsN.puts:∀ (P:List (κ × Int)) {L:List (κ × Int)} {M:List κ},IsN c L M→(∀ p ∈ P,1 ≤ p.2)→IsN c (P.foldl (fun s p => putN c s p.2 p.1) L) (M ++ expN P)
 | [],L,M,h,_ => by simpa [expN] using h
 | p :: P,L,M,h,hp => by
  have:=IsN.puts P (h.put hc (hp p (by simp)) (x:=p.1)) (fun q hq => hp q (by simp [hq]))
  rw [jM,← List.append_assoc]
  exact this
omit hc in
theorem rep_flat {β γ:Type} (n:Nat) (L:List β) (f:β→List γ):((List.replicate n L).flatten.flatMap f).Perm (L.flatMap fun b => (List.replicate n (f b)).flatten):=by
 induction L with
 | nil => simp
 | cons b L ih =>
  have key:∀ n,((List.replicate n (b :: L)).flatten.flatMap f).Perm ((List.replicate n (f b)).flatten ++ (List.replicate n L).flatten.flatMap f):=by
   intro n
   induction n with
   | zero => simp
   | succ n ih2 =>
    rw [List.replicate_succ,List.flatten_cons,List.flatMap_append,List.flatMap_cons,List.replicate_succ,List.flatten_cons,List.replicate_succ,List.flatten_cons,List.flatMap_append]
    refine ((List.perm_append_left_iff _).2 ih2).trans ?_
    rw [List.append_assoc,List.append_assoc]
    refine (List.perm_append_left_iff _).2 ?_
    rw [← List.append_assoc,← List.append_assoc]
    exact (List.perm_append_right_iff _).2 List.perm_append_comm
  refine (key n).trans ?_
  rw [List.flatMap_cons]
  exact (List.perm_append_left_iff _).2 ih
omit hc in
theorem rep_map {β γ:Type} (n m:Nat) (a:β) (f:β→γ):(List.replicate n (List.replicate m (f a))).flatten = List.replicate (n * m) (f a):=by
 induction n with
 | zero => simp
 | succ n ih => rw [List.replicate_succ,List.flatten_cons,ih,Nat.succ_mul,Nat.add_comm (n * m),List.replicate_append_replicate]
omit hc in
theorem exp_prod {α β:Type} (f:α→β→κ) (B:List (β × Int)) (hB:∀ q ∈ B,1 ≤ q.2):∀ (A:List (α × Int)),(∀ p ∈ A,1 ≤ p.2) →
  (expN (A.flatMap fun a => B.map fun b => (f a.1 b.1,a.2 * b.2))).Perm ((expN A).flatMap fun a => (expN B).map (f a))
 | [],_ => by simp [expN]
 | a :: A,hA => by
  have ih:=exp_prod f B hB A (fun p hp => hA p (by simp [hp]))
  have ha:=hA a (by simp)
  rw [List.flatMap_cons,kS,jM,List.flatMap_append]
  refine List.Perm.append ?_ ih
  have e1:(List.replicate a.2.toNat a.1).flatMap (fun x => (expN B).map (f x)) = ((List.replicate a.2.toNat (expN B)).flatten).flatMap (fun b => [f a.1 b]):=by
   rw [List.flatMap_replicate]
   generalize a.2.toNat = n
   induction n with
   | zero => simp
   | succ n ih => rw [List.replicate_succ,List.flatten_cons,List.replicate_succ,List.flatten_cons,List.flatMap_append,← ih];congr 1;simp [List.map_eq_flatMap]
  rw [e1]
  refine List.Perm.symm ((rep_flat _ _ _).trans ?_)
  clear ih e1
  have e2:∀ (B:List (β × Int)),(∀ q ∈ B,1 ≤ q.2)→((expN B).flatMap fun b => (List.replicate a.2.toNat [f a.1 b]).flatten) = expN (B.map fun b => (f a.1 b.1,a.2 * b.2)):=by
   intro B
   induction B with
   | nil => intro _;rfl
   | cons b B ih =>
    intro hB
    rw [jM,List.flatMap_append,ih (fun q hq => hB q (by simp [hq])),List.map_cons,jM]
    congr 1
    have hb:=hB b (by simp)
    rw [List.flatMap_replicate]
    have:(List.replicate a.2.toNat [f a.1 b.1]).flatten = List.replicate a.2.toNat (f a.1 b.1):=by simp
    rw [this,rep_map (a:=b.1) (f:=fun y => f a.1 y)]
    congr 1
    rw [Int.toNat_mul (by omega) (by omega),Nat.mul_comm]
  rw [e2 B hB]
omit hc in
theorem qC0 {α β:Type} {f g:α→List β}:∀ (l:List α),(∀ a ∈ l,(f a).Perm (g a))→(l.flatMap f).Perm (l.flatMap g)
 | [],_ => .refl _
 | a :: l,h => by
  rw [List.flatMap_cons,List.flatMap_cons]
  exact (h a (by simp)).append (qC0 l fun b hb => h b (by simp [hb]))
omit hc in
theorem perm_prod {α β γ:Type} {A A':List α} {B B':List β} (f:α→β→γ) (h1:A.Perm A') (h2:B.Perm B'):(A.flatMap fun a => B.map (f a)).Perm (A'.flatMap fun a => B'.map (f a)) :=
 (h1.flatMap_right _).trans (qC0 _ fun a _ => h2.map (f a))
def timesN {κ:Type} (c:κ→κ→Int) (f:κ→κ→κ) (A B:List (κ × Int)):List (κ × Int) :=
 (A.flatMap fun a => B.map fun b => (f a.1 b.1,a.2 * b.2)).foldl (fun s p => putN c s p.2 p.1) []
theorem IsN.times (f:κ→κ→κ) {A B:List (κ × Int)} {M N:List κ} (hA:IsN c A M) (hB:IsN c B N):IsN c (timesN c f A B) (M.flatMap fun a => N.map (f a)):=by
 have h:=IsN.puts hc (A.flatMap fun a => B.map fun b => (f a.1 b.1,a.2 * b.2)) (IsN.nil (c:=c)) (fun p hp => by
  obtain ⟨a,ha,hp⟩:=List.mem_flatMap.1 hp
  obtain ⟨b,hb,rfl⟩:=List.mem_map.1 hp
  have h1:=hA.1.2 a ha
  have h2:=hB.1.2 b hb
  exact Int.mul_pos h1 h2)
 rw [List.nil_append] at h
 exact h.perm ((exp_prod f B hB.1.2 A hA.1.2).trans (perm_prod f hA.2 hB.2))
omit hc
theorem putN_skip {k:Int} {x:κ} (M:List (κ × Int)):∀ {L:List (κ × Int)},(∀ q ∈ L,0 < c x q.1)→putN c (L ++ M) k x = L ++ putN c M k x
 | [],_ => rfl
 | p :: L,h => by
  have h1:=h p (by simp)
  rw [List.cons_append]
  conv => lhs;unfold putN
  rw [if_neg (by omega),if_neg (by omega),putN_skip M (fun q hq => h q (by simp [hq]))]
  rfl
theorem IsN.cnt {L:List (κ × Int)} {M:List κ} (h:IsN c L M):∀ p ∈ L,1 ≤ p.2∧p.2 ≤ M.length:=fun p hp => by
 have h1:=h.1.2 p hp
 refine ⟨h1,?_⟩
 have hl:=h.2.length_eq
 obtain ⟨s,t,rfl⟩:=List.append_of_mem hp
 rw [kS,jM,List.length_append,List.length_append,List.length_replicate] at hl
 omega
theorem IsN.len {L:List (κ × Int)} {M:List κ} (h:IsN c L M):L.length ≤ M.length:=by
 rw [← h.2.length_eq]
 have key:∀ (L:List (κ × Int)),(∀ p ∈ L,1 ≤ p.2)→L.length ≤ (expN L).length:=by
  intro L
  induction L with
  | nil => intro _;exact Nat.le_refl _
  | cons p L ih =>
   intro hp
   have h1:=hp p (by simp)
   have h2:=ih (fun q hq => hp q (by simp [hq]))
   rw [jM,List.length_append,List.length_replicate,List.length_cons];omega
 exact key L h.1.2
theorem IsN.key {L:List (κ × Int)} {M:List κ} (h:IsN c L M):∀ p ∈ L,p.1 ∈ M:=fun p hp => h.2.mem_iff.1 (mem_expN hp (h.1.2 p hp))
def stepN (c:κ→κ→Int) (out:List (κ × Int)) (x:κ):List (κ × Int):=match out.getLast? with
 | some p => if c p.1 x = 0 then out.dropLast ++ [(p.1,p.2 + 1)] else out ++ [(x,1)]
 | none => [(x,1)]
def runsN (c:κ→κ→Int) (M:List κ):List (κ × Int):=M.foldl (stepN c) []
theorem stepN_eq {c:κ→κ→Int} (out:List (κ × Int)) (p:κ × Int) (x:κ) (h:c p.1 x = 0):stepN c (out ++ [p]) x = out ++ [(p.1,p.2 + 1)]:=by simp [stepN,h]
theorem stepN_ne {c:κ→κ→Int} (out:List (κ × Int)) (p:κ × Int) (x:κ) (h:¬ c p.1 x = 0):stepN c (out ++ [p]) x = out ++ [p] ++ [(x,1)]:=by simp [stepN,h]
theorem runsN_snoc (c:κ→κ→Int) (M:List κ) (x:κ):runsN c (M ++ [x]) = stepN c (runsN c M) x:=by unfold runsN;rw [List.foldl_append];rfl
theorem snocN {α:Type} {l:List α} (h:l ≠ []):∃ p z,l = p ++ [z]:=⟨l.dropLast,l.getLast h,(List.dropLast_concat_getLast h).symm⟩
include hc
theorem runsN_is:∀ (n:Nat) (M:List κ),M.length = n→M.Pairwise (fun a b => c a b ≤ 0)→IsN c (runsN c M) M
 | 0,M,hn,_ => by
  obtain rfl:=List.eq_nil_of_length_eq_zero hn
  exact IsN.nil
 | n + 1,M,hn,hM => by
  obtain ⟨M,x,rfl⟩:=snocN (l:=M) (by rintro rfl;cases hn)
  rw [List.pairwise_append] at hM
  have ih:=runsN_is n M (by simpa using hn) hM.1
  have hx:∀ a ∈ M,c a x ≤ 0:=fun a ha => hM.2.2 a ha x (by simp)
  rw [runsN_snoc]
  by_cases h0:runsN c M = []
  ·rw [h0] at ih ⊢
   obtain rfl:M = []:=List.nil_perm.1 ih.2
   exact ⟨⟨by simp [stepN],fun q hq => by
    have:q = (x,1):=by simpa [stepN] using hq
    rw [this];exact Int.le_refl _⟩,by simp [stepN,expN]⟩
  ·obtain ⟨out,p,e⟩:=snocN h0
   rw [e] at ih ⊢
   obtain ⟨⟨i1,i2⟩,i3⟩:=ih
   rw [List.pairwise_append] at i1
   have hp1:=i2 p (by simp)
   have hpx:=hx p.1 (i3.mem_iff.1 (mem_expN (by simp) hp1))
   by_cases hq:c p.1 x = 0
   ·rw [stepN_eq _ _ _ hq]
    refine ⟨⟨List.pairwise_append.2 ⟨i1.1,by simp,fun a ha b hb => ?_⟩,fun q hq => ?_⟩,?_⟩
    ·obtain rfl:=List.mem_singleton.1 hb
     exact i1.2.2 a ha p (by simp)
    ·rcases List.mem_append.1 hq with hq|hq
     ·exact i2 q (by simp [hq])
     ·obtain rfl:=List.mem_singleton.1 hq
      show 1 ≤ p.2 + 1;omega
    ·obtain rfl:=hc.zero _ _ hq
     rw [kS] at i3 ⊢
     have:expN [(p.1,p.2 + 1)] = expN [p] ++ [p.1]:=by
      show List.replicate (p.2 + 1).toNat p.1 ++ [] = (List.replicate p.2.toNat p.1 ++ []) ++ [p.1]
      rw [show (p.2 + 1).toNat = p.2.toNat + 1 by omega,List.replicate_succ'];simp
     rw [this,← List.append_assoc]
     exact (List.perm_append_right_iff _).2 i3
   ·rw [stepN_ne _ _ _ hq]
    refine ⟨⟨List.pairwise_append.2 ⟨List.pairwise_append.2 i1,by simp,fun a ha b hb => ?_⟩,fun q hq => ?_⟩,?_⟩
    ·obtain rfl:=List.mem_singleton.1 hb
     show c a.1 x < 0
     have hpx':c p.1 x < 0:=by omega
     rcases List.mem_append.1 ha with ha|ha
     ·exact hc.lt_tr (i1.2.2 a ha p (by simp)) hpx'
     ·obtain rfl:=List.mem_singleton.1 ha
      exact hpx'
    ·rcases List.mem_append.1 hq with hq|hq
     ·exact i2 q hq
     ·obtain rfl:=List.mem_singleton.1 hq
      exact Int.le_refl _
    ·rw [kS]
     exact (List.perm_append_right_iff _).2 i3
theorem runsN_sorted {S M:List κ} (hp:S.Perm M) (hs:S.Pairwise (fun a b => c a b ≤ 0)):IsN c (runsN c S) M:=(runsN_is hc _ S rfl hs).perm hp
end
end
section
abbrev Spl:=List (List Int) × List (List Int)
def pairC {α β:Type} (c:α→α→Int) (d:β→β→Int) (a b:α × β):Int:=if c a.1 b.1 = 0 then d a.2 b.2 else c a.1 b.1
theorem pairC_cmp {α β:Type} {c:α→α→Int} {d:β→β→Int} (hc:Cmp c) (hd:Cmp d):Cmp (pairC c d) where
 zero:=by
  intro a b h
  unfold pairC at h
  split at h
  ·rename_i e;exact Prod.ext (hc.zero _ _ e) (hd.zero _ _ h)
  ·omega
 refl:=by intro a;unfold pairC;rw [if_pos (hc.refl _)];exact hd.refl _
 anti:=by
  intro a b
  unfold pairC
  by_cases e:c a.1 b.1 = 0
  ·rw [if_pos e,if_pos (hc.eq_swap e)];exact hd.anti _ _
  ·have e2:c b.1 a.1 ≠ 0:=fun h => e (hc.eq_swap h)
   rw [if_neg e,if_neg e2];exact hc.anti _ _
 trans:=by
  intro a b d' h1 h2
  unfold pairC at h1 h2 ⊢
  by_cases e1:c a.1 b.1 = 0
  ·rw [if_pos e1] at h1
   have eab:=hc.zero _ _ e1
   by_cases e2:c b.1 d'.1 = 0
   ·rw [if_pos e2] at h2
    rw [eab,if_pos e2];exact hd.trans _ _ _ h1 h2
   ·rw [if_neg e2] at h2
    rw [eab,if_neg e2];exact h2
  ·rw [if_neg e1] at h1
   by_cases e2:c b.1 d'.1 = 0
   ·rw [← hc.zero _ _ e2,if_neg e1];exact h1
   ·rw [if_neg e2] at h2
    have:=hc.lt_tr (a:=a.1) (b:=b.1) (d:=d'.1) (by omega) (by omega)
    rw [if_neg (by omega)];omega
theorem cmpN_cmp:Cmp cmpN:=thenC_cmp (lexC_cmp yL)
def cmpS:Spl→Spl→Int:=pairC cmpF cmpN
theorem yN:Cmp cmpS:=pairC_cmp cmpF_cmp cmpN_cmp
def catS (s c:Spl):Spl:=(s.1 ++ c.1,s.2 ++ c.2)
def mulS (s c:Spl):Spl:=(mulF s.1 c.1,mulF s.2 c.2)
def nrmS (s:Spl):Spl:=(sortC cmpT s.1,sortC cmpT s.2)
def prodS (Ls:List (List Spl)):List Spl:=Ls.foldl (fun A L => A.flatMap fun s => L.map (catS s)) [([],[])]
theorem sort_sort (f g:List (List Int)):sortC cmpT (sortC cmpT f ++ sortC cmpT g) = sortC cmpT (f ++ g) :=
 qG0 yL ((jE _).append (jE _))
theorem nrm_cat (s c:Spl):nrmS (catS s c) = mulS (nrmS s) (nrmS c):=by
 unfold nrmS catS mulS mulF
 simp only [sort_sort]
theorem vL (A L:List Spl):(A.flatMap fun s => L.map (catS s)).map nrmS = (A.map nrmS).flatMap fun s => (L.map nrmS).map (mulS s):=by
 induction A with
 | nil => rfl
 | cons a A ih =>
  rw [List.flatMap_cons,List.map_append,ih,List.map_cons,List.flatMap_cons]
  congr 1
  rw [List.map_map,List.map_map]
  exact List.map_congr_left fun c _ => nrm_cat a c
theorem nrm_comm (a b d:Spl):nrmS (catS (catS a b) d) = nrmS (catS (catS a d) b):=by
 unfold nrmS catS
 refine Prod.ext (qG0 yL ?_) (qG0 yL ?_)
 all_goals
  simp only [List.append_assoc]
  exact (List.perm_append_left_iff _).2 List.perm_append_comm
theorem flat_comm {α β γ:Type} (f:α→β→γ):∀ (A:List α) (B:List β),(A.flatMap fun a => B.map (f a)).Perm (B.flatMap fun b => A.map fun a => f a b)
 | [],B => by simp
 | a :: A,B => by
  rw [List.flatMap_cons]
  refine ((List.perm_append_left_iff _).2 (flat_comm f A B)).trans ?_
  clear flat_comm
  induction B with
  | nil => simp
  | cons b B ih =>
   simp only [List.map_cons,List.flatMap_cons,List.cons_append]
   refine List.Perm.cons _ ?_
   refine List.Perm.trans ?_ ((List.perm_append_left_iff _).2 ih)
   rw [← List.append_assoc,← List.append_assoc]
   exact (List.perm_append_right_iff _).2 List.perm_append_comm
def foldS (A:List Spl) (Ls:List (List Spl)):List Spl:=Ls.foldl (fun A L => A.flatMap fun s => L.map (catS s)) A
theorem foldS_perm {A A':List Spl}:∀ (Ls:List (List Spl)),(A.map nrmS).Perm (A'.map nrmS)→((foldS A Ls).map nrmS).Perm ((foldS A' Ls).map nrmS)
 | [],h => h
 | L :: Ls,h => by
  refine foldS_perm Ls (A:=A.flatMap fun s => L.map (catS s)) (A':=A'.flatMap fun s => L.map (catS s)) ?_
  rw [vL,vL]
  exact h.flatMap_right _
theorem flat2 (A L M:List Spl):((A.flatMap fun s => L.map (catS s)).flatMap fun s => M.map (catS s)) = A.flatMap fun a => L.flatMap fun b => M.map fun d => catS (catS a b) d:=by
 rw [List.flatMap_assoc]
 congr 1;funext a
 rw [List.flatMap_map]
theorem prodS_perm {Ls Ls':List (List Spl)} (h:Ls.Perm Ls'):∀ A:List Spl,((foldS A Ls).map nrmS).Perm ((foldS A Ls').map nrmS):=by
 induction h with
 | nil => intro A;exact List.Perm.refl _
 | cons L _ ih => intro A;exact ih _
 | swap L M Ls =>
  intro A
  refine foldS_perm Ls (A:=(A.flatMap fun s => M.map (catS s)).flatMap fun s => L.map (catS s)) (A':=(A.flatMap fun s => L.map (catS s)).flatMap fun s => M.map (catS s)) ?_
  rw [flat2,flat2,List.map_flatMap,List.map_flatMap]
  refine qC0 _ fun a _ => ?_
  rw [List.map_flatMap,List.map_flatMap]
  have e:∀ (M L:List Spl),(M.flatMap fun b => (L.map fun d => catS (catS a b) d).map nrmS) = M.flatMap fun b => L.map fun d => nrmS (catS (catS a b) d):=fun M L => by
   congr 1;funext b;rw [List.map_map];rfl
  rw [e,e]
  refine (flat_comm _ M L).trans ?_
  refine qC0 _ fun b _ => ?_
  rw [List.map_congr_left fun d _ => nrm_comm a d b]
 | trans _ _ h1 h2 => intro A;exact (h1 A).trans (h2 A)
theorem prodS_congr {α:Type} (f g:α→List Spl):∀ (bs:List α),(∀ b ∈ bs,((f b).map nrmS).Perm ((g b).map nrmS))→∀ A A':List Spl,(A.map nrmS).Perm (A'.map nrmS)→((foldS A (bs.map f)).map nrmS).Perm ((foldS A' (bs.map g)).map nrmS)
 | [],_,A,A',h => h
 | b :: bs,hb,A,A',h => by
  refine prodS_congr f g bs (fun x hx => hb x (by simp [hx])) (A.flatMap fun s => (f b).map (catS s)) (A'.flatMap fun s => (g b).map (catS s)) ?_
  rw [vL,vL]
  exact perm_prod mulS h (hb b (by simp))
def splitF:Nat→List Int→List Spl
 | 0,_ => []
 | n + 1,t => ((prodS ((brs t).map (splitF n))).map fun s => (s.1,[canon (qT s.2)])) ++ [([canon t],[])]
def split (t:List Int):List Spl:=splitF t.length t
theorem splitF_eq:∀ (f:Nat) {t:List Int},qY t→t.length ≤ f→splitF f t = split t:=by
 have key:∀ (n f g:Nat) (t:List Int),qY t→t.length ≤ n→t.length ≤ f→t.length ≤ g→splitF f t = splitF g t:=by
  intro n
  induction n with
  | zero => intro f g t h hn;have:=h.pos;omega
  | succ n ih =>
   intro f g t h hn hf hg
   have hp:=h.pos
   obtain ⟨f,rfl⟩:∃ f',f = f' + 1:=⟨f - 1,by omega⟩
   obtain ⟨g,rfl⟩:∃ g',g = g' + 1:=⟨g - 1,by omega⟩
   simp only [splitF]
   congr 3
   apply List.map_congr_left
   intro b hb
   have:=yA h b hb
   exact ih f g b (jX h b hb) (by omega) (by omega) (by omega)
 intro f t h hf
 exact key t.length f t.length t h (Nat.le_refl _) hf (Nat.le_refl _)
theorem xW {t:List Int} (h:qY t):split t = ((prodS ((brs t).map split)).map fun s => (s.1,[canon (qT s.2)])) ++ [([canon t],[])]:=by
 have hp:=h.pos
 obtain ⟨n,hn⟩:∃ n,t.length = n + 1:=⟨t.length - 1,by omega⟩
 conv => lhs;unfold split;rw [hn];simp only [splitF]
 congr 3
 apply List.map_congr_left
 intro b hb
 have:=yA h b hb
 exact splitF_eq n (jX h b hb) (by omega)
def yU (n:Nat) (s:Spl):Prop:=(∀ t ∈ s.1 ++ s.2,qY t∧canon t = t)∧qJ s.1 + qJ s.2 = n
theorem qF0 {α:Type} (f:α→List Spl) (m:α→Nat):∀ (bs:List α) (A:List Spl) (n:Nat),(∀ b ∈ bs,∀ s ∈ f b,yU (m b) s)→(∀ s ∈ A,yU n s)→∀ s ∈ foldS A (bs.map f),yU (n + (bs.map m).sum) s
 | [],A,n,_,hA => by simpa [foldS] using hA
 | b :: bs,A,n,hb,hA => by
  intro s hs
  have:=qF0 f m bs (A.flatMap fun s => (f b).map (catS s)) (n + m b) (fun x hx => hb x (by simp [hx])) (fun s hs => by
   obtain ⟨a,ha,hs⟩:=List.mem_flatMap.1 hs
   obtain ⟨d,hd,rfl⟩:=List.mem_map.1 hs
   obtain ⟨a1,a2⟩:=hA a ha
   obtain ⟨d1,d2⟩:=hb b (by simp) d hd
   refine ⟨fun t ht => ?_,?_⟩
   ·unfold catS at ht
    simp only [List.mem_append] at ht
    rcases ht with (ht|ht)|ht|ht
    ·exact a1 t (by simp [ht])
    ·exact d1 t (by simp [ht])
    ·exact a1 t (by simp [ht])
    ·exact d1 t (by simp [ht])
   ·unfold catS
    simp only [kR];omega) s hs
  rw [List.map_cons,List.sum_cons,← Nat.add_assoc]
  exact this
theorem kE:∀ (n:Nat) {t:List Int},t.length ≤ n→qY t→∀ s ∈ split t,yU t.length s
 | 0,t,hn,h => by have:=h.pos;omega
 | n + 1,t,hn,h => by
  intro s hs
  rw [xW h] at hs
  rcases List.mem_append.1 hs with hs|hs
  ·obtain ⟨a,ha,rfl⟩:=List.mem_map.1 hs
   have hg:=qF0 split List.length (brs t) [([],[])] 0 (fun b hb => kE n (by have:=yA h b hb;omega) (jX h b hb)) (fun s hs => by
    obtain rfl:=List.mem_singleton.1 hs
    exact ⟨by simp,rfl⟩) a ha
   rw [Nat.zero_add,show ((brs t).map List.length).sum = qJ (brs t) from rfl] at hg
   have hb:=xB h
   obtain ⟨g1,g2⟩:=hg
   have hl:qY (qT a.2):=kN fun b hb => (g1 b (by simp [hb])).1
   refine ⟨fun u hu => ?_,?_⟩
   ·simp only [List.mem_append,List.mem_singleton] at hu
    rcases hu with hu|rfl
    ·exact g1 u (by simp [hu])
    ·exact ⟨yE hl,kH hl⟩
   ·show qJ a.1 + qJ [canon (qT a.2)] = t.length
    have:qJ [canon (qT a.2)] = qJ a.2 + 1:=by
     show (canon (qT a.2)).length + 0 = _
     rw [xN hl,xA]
    omega
  ·obtain rfl:=List.mem_singleton.1 hs
   refine ⟨fun u hu => ?_,?_⟩
   ·simp only [List.append_nil,List.mem_singleton] at hu
    rw [hu];exact ⟨yE h,kH h⟩
   ·show (canon t).length + 0 + 0 = _
    rw [xN h];rfl
theorem canon_root {bs cs:List (List Int)} (h:∀ b ∈ bs,qY b) (hp:bs.Perm cs):canon (qT bs) = canon (qT cs):=by
 have h':∀ b ∈ cs,qY b:=fun b hb => h b (hp.mem_iff.2 hb)
 rw [xD (kN h),xD (kN h'),vW h,vW h']
 rw [qG0 cmpD_cmp (hp.map canon)]
def rootS (s:Spl):Spl:=(s.1,[canon (qT s.2)])
theorem nrm_root {s:Spl} (h:∀ t ∈ s.1 ++ s.2,qY t):nrmS (rootS s) = rootS (nrmS s):=by
 unfold nrmS rootS
 refine Prod.ext rfl ?_
 show sortC cmpT [canon (qT s.2)] = [canon (qT (sortC cmpT s.2))]
 rw [canon_root (bs:=s.2) (fun b hb => h b (by simp [hb])) (jE _).symm]
 rfl
theorem nrm_roots {A B:List Spl} (hA:∀ s ∈ A,∀ t ∈ s.1 ++ s.2,qY t) (hB:∀ s ∈ B,∀ t ∈ s.1 ++ s.2,qY t) (h:(A.map nrmS).Perm (B.map nrmS)):((A.map rootS).map nrmS).Perm ((B.map rootS).map nrmS):=by
 have e:∀ {A:List Spl},(∀ s ∈ A,∀ t ∈ s.1 ++ s.2,qY t)→(A.map rootS).map nrmS = (A.map nrmS).map rootS:=fun {A} hA => by
  rw [List.map_map,List.map_map]
  exact List.map_congr_left fun s hs => nrm_root (hA s hs)
 rw [e hA,e hB]
 exact h.map _
theorem vM {bs:List (List Int)} (h:∀ b ∈ bs,qY b):∀ s ∈ prodS (bs.map split),∀ t ∈ s.1 ++ s.2,qY t:=fun s hs t ht =>
 ((qF0 split List.length bs [([],[])] 0 (fun b hb => kE _ (Nat.le_refl _) (h b hb)) (fun s hs => by
   obtain rfl:=List.mem_singleton.1 hs
   exact ⟨by simp,rfl⟩) s hs).1 t ht).1
theorem jT0:∀ (n:Nat) {t:List Int},t.length ≤ n→qY t→((split (canon t)).map nrmS).Perm ((split t).map nrmS)
 | 0,t,hn,h => by have:=h.pos;omega
 | n + 1,t,hn,h => by
  have hb:=fun b hb => jX h b hb
  have hcb:∀ b ∈ sortC cmpD ((brs t).map canon),qY b:=fun b hb' => by
   rw [yQ,List.mem_map] at hb'
   obtain ⟨x,hx,rfl⟩:=hb'
   exact yE (hb x hx)
  have hcm:∀ b ∈ (brs t).map canon,qY b:=fun b hb' => hcb b (by rw [yQ];exact hb')
  have eb:brs (canon t) = sortC cmpD ((brs t).map canon):=by rw [xD h,vW hcb]
  rw [xW (yE h),xW h,List.map_append,List.map_append,kH h,eb]
  refine List.Perm.append ?_ (List.Perm.refl _)
  refine nrm_roots (vM hcb) (vM hb) ?_
  refine (prodS_perm ((jE ((brs t).map canon)).map split) _).trans ?_
  rw [List.map_map]
  exact prodS_congr (split ∘ canon) split (brs t) (fun b hb' => jT0 n (by have:=yA h b hb';omega) (hb b hb')) _ _ (List.Perm.refl _)
def gathS (L:List Spl):List (Spl × Int):=runsN cmpS (sortC cmpS (L.map nrmS))
theorem jB (L:List Spl):IsN cmpS (gathS L) (L.map nrmS):=runsN_sorted yN (jE _) (xF yN _)
def forS (f:List Int→List (Spl × Int)) (bs:List (List Int)):List (Spl × Int):=bs.foldl (fun out b => timesN cmpS mulS out (f b)) [(([],[]),1)]
def putsS (t:List Int) (below:List (Spl × Int)):List (Spl × Int):=below.foldl (fun s p => putN cmpS s p.2 (rootS p.1)) [(([t],[]),1)]
theorem forS_is (f:List Int→List (Spl × Int)) (g:List Int→List Spl):∀ (bs:List (List Int)),(∀ b ∈ bs,IsN cmpS (f b) ((g b).map nrmS))→∀ (L:List (Spl × Int)) (A:List Spl),IsN cmpS L (A.map nrmS) →
  IsN cmpS (bs.foldl (fun out b => timesN cmpS mulS out (f b)) L) ((foldS A (bs.map g)).map nrmS)
 | [],_,L,A,h => h
 | b :: bs,hb,L,A,h => by
  refine forS_is f g bs (fun x hx => hb x (by simp [hx])) _ (A.flatMap fun s => (g b).map (catS s)) ?_
  rw [vL]
  exact IsN.times yN mulS h (hb b (by simp))
theorem one_is:IsN cmpS [((([],[]):Spl),1)] ([([],[])].map nrmS):=⟨⟨by simp,by simp⟩,List.Perm.refl _⟩
theorem nrm_one {t:List Int}:nrmS ([t],[]) = ([t],[]):=rfl
theorem spec_tree {t:List Int} (h:qY t) (hc:canon t = t) (f:List Int→List (Spl × Int)) (hf:∀ b ∈ brs t,IsN cmpS (f b) ((split b).map nrmS)):putsS t (forS f (sortC cmpT (brs t))) = gathS (split t):=by
 refine IsN.ext yN (M:=[nrmS ([t],[])] ++ ((prodS ((sortC cmpT (brs t)).map split)).map nrmS).map rootS) ?_ (jB (split t)) ?_
 ·have h1:=forS_is f split (sortC cmpT (brs t)) (fun b hb => hf b (yQ.1 hb)) _ _ one_is
  unfold putsS
  have h2:=IsN.puts yN ((forS f (sortC cmpT (brs t))).map fun p => (rootS p.1,p.2)) (L:=[(([t],[]),1)]) (M:=[nrmS ([t],[])]) ⟨⟨by simp,by simp⟩,by rw [nrm_one];exact List.Perm.refl _⟩ (fun p hp => by
   obtain ⟨q,hq,rfl⟩:=List.mem_map.1 hp
   exact h1.1.2 q hq)
  rw [List.foldl_map] at h2
  refine h2.perm ((List.perm_append_left_iff _).2 ?_)
  have e:∀ L:List (Spl × Int),expN (L.map fun p => (rootS p.1,p.2)) = (expN L).map rootS:=fun L => by
   unfold expN
   rw [List.flatMap_map,List.map_flatMap]
   congr 1;funext p;simp
  rw [e]
  exact h1.2.map rootS
 ·have hb:=fun b hb => jX h b hb
  have hs:∀ b ∈ sortC cmpT (brs t),qY b:=fun b hb' => hb b (yQ.1 hb')
  rw [xW h,List.map_append,hc]
  refine List.perm_append_comm.trans ?_
  refine List.Perm.append ?_ (List.Perm.refl _)
  have e:((prodS ((sortC cmpT (brs t)).map split)).map nrmS).map rootS = ((prodS ((sortC cmpT (brs t)).map split)).map rootS).map nrmS:=by
   rw [List.map_map,List.map_map]
   exact List.map_congr_left fun s hs' => (nrm_root (vM hs s hs')).symm
  rw [e]
  exact nrm_roots (vM hs) (vM hb) (prodS_perm ((jE (brs t)).map split) _)
theorem spec_forest (bs:List (List Int)) (f:List Int→List (Spl × Int)) (hf:∀ b ∈ bs,f b = gathS (split b)):forS f bs = gathS (prodS (bs.map split)) :=
 IsN.ext yN (forS_is f split bs (fun b hb => by rw [hf b hb];exact jB _) _ _ one_is) (jB _) (List.Perm.refl _)
theorem gath_canon {t:List Int} (h:qY t):gathS (split (canon t)) = gathS (split t):=IsN.ext yN (jB _) (jB _) (jT0 _ (Nat.le_refl _) h)
end
end Go.Proofs.YtedgfkpfhonlpaaGreat
