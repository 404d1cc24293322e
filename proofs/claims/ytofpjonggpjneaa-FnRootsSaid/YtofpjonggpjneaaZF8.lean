/- Lemmas (8). -/
import Derived.BigQuiet
import Derived.Test.YtofpjonggpjneaaZF0
import Derived.Test.YtofpjonggpjneaaZF1
import Derived.Test.YtofpjonggpjneaaZF2
import Derived.Test.YtofpjonggpjneaaZF3
import Derived.Test.YtofpjonggpjneaaZF7
set_option linter.unusedSimpArgs false
set_option linter.unusedVariables false
namespace Go.Proofs.Ytofpjonggpjneaa
section
variable {κ:Type} (c:κ→κ→Int)
def putN:List (κ × Int)→Int→κ→List (κ × Int)
 | [],k,x => [(x,k)]
 | p :: L,k,x => if c x p.1 < 0 then (x,k) :: p :: L else if c x p.1 = 0 then (p.1,p.2 + k) :: L else p :: putN L k x
def expN (L:List (κ × Int)):List κ:=L.flatMap fun p => List.replicate p.2.toNat p.1
def NfN (L:List (κ × Int)):Prop:=L.Pairwise (fun p q => c p.1 q.1 < 0)∧∀ q ∈ L,1 ≤ q.2
def IsN (L:List (κ × Int)) (M:List κ):Prop:=NfN c L∧(expN L).Perm M
end
section
variable {κ:Type} {c:κ→κ→Int}
theorem expN_cons (p:κ × Int) (L:List (κ × Int)):expN (p :: L) = List.replicate p.2.toNat p.1 ++ expN L:=rfl
theorem expN_app (L M:List (κ × Int)):expN (L ++ M) = expN L ++ expN M:=by simp [expN]
theorem expN_mem {L:List (κ × Int)} {x:κ} (h:x ∈ expN L):∃ p ∈ L,p.1 = x:=by
 obtain ⟨p,hp,h⟩:=List.mem_flatMap.1 h
 exact ⟨p,hp,(List.eq_of_mem_replicate h).symm⟩
theorem mem_expN {L:List (κ × Int)} {p:κ × Int} (h:p ∈ L) (h1:1 ≤ p.2):p.1 ∈ expN L :=
 List.mem_flatMap.2 ⟨p,h,List.mem_replicate.2 ⟨by omega,rfl⟩⟩
theorem NfN.nil:NfN c []:=⟨List.Pairwise.nil,fun q hq => nomatch hq⟩
theorem IsN.nil:IsN c [] []:=⟨NfN.nil,List.Perm.refl _⟩
theorem IsN.perm {L:List (κ × Int)} {M M':List κ} (h:IsN c L M) (hp:M.Perm M'):IsN c L M':=⟨h.1,h.2.trans hp⟩
theorem NfN.tail {p:κ × Int} {L:List (κ × Int)} (h:NfN c (p :: L)):NfN c L:=⟨(List.pairwise_cons.1 h.1).2,fun q hq => h.2 q (List.mem_cons_of_mem _ hq)⟩
variable (hc:Cmp c)
include hc
theorem NfN.ext:∀ {L L':List (κ × Int)},NfN c L→NfN c L'→(expN L).Perm (expN L')→L = L'
 | [],[],_,_,_ => rfl
 | [],q :: L',_,h',hp => by
  have:=hp.length_eq
  have h1:=h'.2 q (by simp)
  rw [expN_cons,List.length_append,List.length_replicate] at this
  simp [expN] at this;omega
 | p :: L,[],h,_,hp => by
  have:=hp.length_eq
  have h1:=h.2 p (by simp)
  rw [expN_cons,List.length_append,List.length_replicate] at this
  simp [expN] at this;omega
 | p :: L,q :: L',h,h',hp => by
  have hp1:=h.2 p (by simp)
  have hq1:=h'.2 q (by simp)
  have low:∀ {p:κ × Int} {L:List (κ × Int)},NfN c (p :: L)→∀ x ∈ expN (p :: L),c p.1 x ≤ 0:=fun {p L} h x hx => by
   obtain ⟨r,hr,rfl⟩:=expN_mem hx
   rcases List.mem_cons.1 hr with rfl|hr
   ·rw [hc.refl];omega
   ·have:=(List.pairwise_cons.1 h.1).1 r hr;omega
  have e1:=low h q.1 (hp.mem_iff.2 (mem_expN (by simp) hq1))
  have e2:=low h' p.1 (hp.mem_iff.1 (mem_expN (by simp) hp1))
  have ek:p.1 = q.1:=by
   apply hc.zero
   rcases Int.lt_or_eq_of_le e1 with e|e
   ·have:=(hc.anti _ _).1 e;omega
   ·exact e
  have no:∀ {p:κ × Int} {L:List (κ × Int)},NfN c (p :: L)→p.1 ∉ expN L:=fun {p L} h hx => by
   obtain ⟨r,hr,e⟩:=expN_mem hx
   have:=(List.pairwise_cons.1 h.1).1 r hr
   rw [e,hc.refl] at this;omega
  have hcnt:∀ {p:κ × Int} {L:List (κ × Int)},NfN c (p :: L)→(expN (p :: L)).countP (fun x => decide (c p.1 x = 0)) = p.2.toNat:=fun {p L} h => by
   rw [expN_cons,List.countP_append,List.countP_replicate,if_pos (by simp [hc.refl])]
   have:(expN L).countP (fun x => decide (c p.1 x = 0)) = 0:=List.countP_eq_zero.2 fun x hx => by
    have:c p.1 x ≠ 0:=fun e => no h (by rw [hc.zero _ _ e];exact hx)
    simpa using this
   omega
  have c1:=hcnt h
  have c2:=hcnt h'
  rw [← ek,← hp.countP_eq] at c2
  have en:p.2 = q.2:=by omega
  have epq:p = q:=Prod.ext ek en
  subst epq
  rw [expN_cons,expN_cons,List.perm_append_left_iff] at hp
  rw [NfN.ext h.tail h'.tail hp]
theorem IsN.ext {L L':List (κ × Int)} {M M':List κ} (h:IsN c L M) (h':IsN c L' M') (hp:M.Perm M'):L = L' :=
 NfN.ext hc h.1 h'.1 (h.2.trans (hp.trans h'.2.symm))
theorem putN_exp:∀ (L:List (κ × Int)) (k:Int) (x:κ),(∀ q ∈ L,1 ≤ q.2)→1 ≤ k→(expN (putN c L k x)).Perm (expN L ++ List.replicate k.toNat x)
 | [],k,x,_,_ => by simp [putN,expN]
 | p :: L,k,x,h,hk => by
  unfold putN
  split
  ·rw [expN_cons];exact List.perm_append_comm
  ·split
   ·rename_i e
    rw [expN_cons,expN_cons,hc.zero _ _ e]
    have:=h p (by simp)
    show (List.replicate (p.2 + k).toNat p.1 ++ expN L).Perm _
    rw [show (p.2 + k).toNat = p.2.toNat + k.toNat by omega,← List.replicate_append_replicate,List.append_assoc,List.append_assoc]
    exact (List.perm_append_left_iff _).2 List.perm_append_comm
   ·rw [expN_cons,expN_cons,List.append_assoc]
    exact (List.perm_append_left_iff _).2 (putN_exp L k x (fun q hq => h q (by simp [hq])) hk)
omit hc in
theorem putN_mem:∀ (L:List (κ × Int)) (k:Int) (x:κ) {q:κ × Int},q ∈ putN c L k x→q.1 = x ∨ ∃ p ∈ L,p.1 = q.1
 | [],k,x,q,h => by
  obtain rfl:q = (x,k):=by simpa [putN] using h
  exact .inl rfl
 | p :: L,k,x,q,h => by
  unfold putN at h
  split at h
  ·rcases List.mem_cons.1 h with rfl|h
   ·exact .inl rfl
   ·exact .inr ⟨q,h,rfl⟩
  ·split at h
   ·rcases List.mem_cons.1 h with rfl|h
    ·exact .inr ⟨p,by simp,rfl⟩
    ·exact .inr ⟨q,by simp [h],rfl⟩
   ·rcases List.mem_cons.1 h with rfl|h
    ·exact .inr ⟨q,by simp,rfl⟩
    ·rcases putN_mem L k x h with h|⟨r,h1,h2⟩
     ·exact .inl h
     ·exact .inr ⟨r,by simp [h1],h2⟩
theorem putN_nf:∀ {L:List (κ × Int)} {k:Int} {x:κ},NfN c L→1 ≤ k→NfN c (putN c L k x)
 | [],k,x,_,hk => ⟨by simp [putN],fun q hq => by
   have:q = (x,k):=by simpa [putN] using hq
   rw [this];exact hk⟩
 | p :: L,k,x,h,hk => by
  have h1:=List.pairwise_cons.1 h.1
  have h2:=h.2 p (by simp)
  unfold putN
  split
  ·rename_i hlt
   refine ⟨List.pairwise_cons.2 ⟨fun q hq => ?_,h.1⟩,fun q hq => ?_⟩
   ·rcases List.mem_cons.1 hq with rfl|hq
    ·exact hlt
    ·exact hc.lt_tr hlt (h1.1 q hq)
   ·rcases List.mem_cons.1 hq with rfl|hq
    ·exact hk
    ·exact h.2 q hq
  ·split
   ·refine ⟨List.pairwise_cons.2 ⟨h1.1,h1.2⟩,fun q hq => ?_⟩
    rcases List.mem_cons.1 hq with rfl|hq
    ·show 1 ≤ p.2 + k;omega
    ·exact h.2 q (by simp [hq])
   ·rename_i n1 n2
    have ih:=putN_nf (x:=x) h.tail hk
    refine ⟨List.pairwise_cons.2 ⟨fun q hq => ?_,ih.1⟩,fun q hq => ?_⟩
    ·rcases putN_mem L k x hq with e|⟨r,hr,e⟩
     ·rw [e,hc.anti];omega
     ·rw [← e];exact h1.1 r hr
    ·rcases List.mem_cons.1 hq with rfl|hq
     ·exact h2
     ·exact ih.2 q hq
theorem IsN.put {L:List (κ × Int)} {M:List κ} (h:IsN c L M) {k:Int} {x:κ} (hk:1 ≤ k):IsN c (putN c L k x) (M ++ List.replicate k.toNat x) :=
 ⟨putN_nf hc h.1 hk,(putN_exp hc L k x h.1.2 hk).trans ((List.perm_append_right_iff _).2 h.2)⟩
theorem IsN.puts:∀ (P:List (κ × Int)) {L:List (κ × Int)} {M:List κ},IsN c L M→(∀ p ∈ P,1 ≤ p.2)→IsN c (P.foldl (fun s p => putN c s p.2 p.1) L) (M ++ expN P)
 | [],L,M,h,_ => by simpa [expN] using h
 | p :: P,L,M,h,hp => by
  have:=IsN.puts P (h.put hc (hp p (by simp)) (x:=p.1)) (fun q hq => hp q (by simp [hq]))
  rw [expN_cons,← List.append_assoc]
  exact this
omit hc
theorem IsN.cnt {L:List (κ × Int)} {M:List κ} (h:IsN c L M):∀ p ∈ L,1 ≤ p.2∧p.2 ≤ M.length:=fun p hp => by
 have h1:=h.1.2 p hp
 refine ⟨h1,?_⟩
 have hl:=h.2.length_eq
 obtain ⟨s,t,rfl⟩:=List.append_of_mem hp
 rw [expN_app,expN_cons,List.length_append,List.length_append,List.length_replicate] at hl
 omega
theorem IsN.len {L:List (κ × Int)} {M:List κ} (h:IsN c L M):L.length ≤ M.length:=by
 rw [← h.2.length_eq]
 have key:∀ (L:List (κ × Int)),(∀ p ∈ L,1 ≤ p.2)→L.length ≤ (expN L).length:=by
  intro L
  induction L with
  | nil => intro _;exact Nat.le_refl _
  | cons p L ih =>
   intro hp
   have h1:=hp p (by simp)
   have h2:=ih (fun q hq => hp q (by simp [hq]))
   rw [expN_cons,List.length_append,List.length_replicate,List.length_cons];omega
 exact key L h.1.2
theorem IsN.key {L:List (κ × Int)} {M:List κ} (h:IsN c L M):∀ p ∈ L,p.1 ∈ M:=fun p hp => h.2.mem_iff.1 (mem_expN hp (h.1.2 p hp))
def stepN (c:κ→κ→Int) (out:List (κ × Int)) (x:κ):List (κ × Int):=match out.getLast? with
 | some p => if c p.1 x = 0 then out.dropLast ++ [(p.1,p.2 + 1)] else out ++ [(x,1)]
 | none => [(x,1)]
def runsN (c:κ→κ→Int) (M:List κ):List (κ × Int):=M.foldl (stepN c) []
theorem stepN_eq {c:κ→κ→Int} (out:List (κ × Int)) (p:κ × Int) (x:κ) (h:c p.1 x = 0):stepN c (out ++ [p]) x = out ++ [(p.1,p.2 + 1)]:=by simp [stepN,h]
theorem stepN_ne {c:κ→κ→Int} (out:List (κ × Int)) (p:κ × Int) (x:κ) (h:¬ c p.1 x = 0):stepN c (out ++ [p]) x = out ++ [p] ++ [(x,1)]:=by simp [stepN,h]
theorem runsN_snoc (c:κ→κ→Int) (M:List κ) (x:κ):runsN c (M ++ [x]) = stepN c (runsN c M) x:=by unfold runsN;rw [List.foldl_append];rfl
theorem snocN {α:Type} {l:List α} (h:l ≠ []):∃ p z,l = p ++ [z]:=⟨l.dropLast,l.getLast h,(List.dropLast_concat_getLast h).symm⟩
include hc
theorem runsN_is:∀ (n:Nat) (M:List κ),M.length = n→M.Pairwise (fun a b => c a b ≤ 0)→IsN c (runsN c M) M
 | 0,M,hn,_ => by
  obtain rfl:=List.eq_nil_of_length_eq_zero hn
  exact IsN.nil
 | n + 1,M,hn,hM => by
  obtain ⟨M,x,rfl⟩:=snocN (l:=M) (by rintro rfl;cases hn)
  rw [List.pairwise_append] at hM
  have ih:=runsN_is n M (by simpa using hn) hM.1
  have hx:∀ a ∈ M,c a x ≤ 0:=fun a ha => hM.2.2 a ha x (by simp)
  rw [runsN_snoc]
  by_cases h0:runsN c M = []
  ·rw [h0] at ih ⊢
   obtain rfl:M = []:=List.nil_perm.1 ih.2
   exact ⟨⟨by simp [stepN],fun q hq => by
    have:q = (x,1):=by simpa [stepN] using hq
    rw [this];exact Int.le_refl _⟩,by simp [stepN,expN]⟩
  ·obtain ⟨out,p,e⟩:=snocN h0
   rw [e] at ih ⊢
   obtain ⟨⟨i1,i2⟩,i3⟩:=ih
   rw [List.pairwise_append] at i1
   have hp1:=i2 p (by simp)
   have hpx:=hx p.1 (i3.mem_iff.1 (mem_expN (by simp) hp1))
   by_cases hq:c p.1 x = 0
   ·rw [stepN_eq _ _ _ hq]
    refine ⟨⟨List.pairwise_append.2 ⟨i1.1,by simp,fun a ha b hb => ?_⟩,fun q hq => ?_⟩,?_⟩
    ·obtain rfl:=List.mem_singleton.1 hb
     exact i1.2.2 a ha p (by simp)
    ·rcases List.mem_append.1 hq with hq|hq
     ·exact i2 q (by simp [hq])
     ·obtain rfl:=List.mem_singleton.1 hq
      show 1 ≤ p.2 + 1;omega
    ·obtain rfl:=hc.zero _ _ hq
     rw [expN_app] at i3 ⊢
     have:expN [(p.1,p.2 + 1)] = expN [p] ++ [p.1]:=by
      show List.replicate (p.2 + 1).toNat p.1 ++ [] = (List.replicate p.2.toNat p.1 ++ []) ++ [p.1]
      rw [show (p.2 + 1).toNat = p.2.toNat + 1 by omega,List.replicate_succ'];simp
     rw [this,← List.append_assoc]
     exact (List.perm_append_right_iff _).2 i3
   ·rw [stepN_ne _ _ _ hq]
    refine ⟨⟨List.pairwise_append.2 ⟨List.pairwise_append.2 i1,by simp,fun a ha b hb => ?_⟩,fun q hq => ?_⟩,?_⟩
    ·obtain rfl:=List.mem_singleton.1 hb
     show c a.1 x < 0
     have hpx':c p.1 x < 0:=by omega
     rcases List.mem_append.1 ha with ha|ha
     ·exact hc.lt_tr (i1.2.2 a ha p (by simp)) hpx'
     ·obtain rfl:=List.mem_singleton.1 ha
      exact hpx'
    ·rcases List.mem_append.1 hq with hq|hq
     ·exact i2 q hq
     ·obtain rfl:=List.mem_singleton.1 hq
      exact Int.le_refl _
    ·rw [expN_app]
     exact (List.perm_append_right_iff _).2 i3
theorem runsN_sorted {S M:List κ} (hp:S.Perm M) (hs:S.Pairwise (fun a b => c a b ≤ 0)):IsN c (runsN c S) M:=(runsN_is hc _ S rfl hs).perm hp
end
end Go.Proofs.Ytofpjonggpjneaa
namespace Go.Proofs.Ytofpjonggpjneaa
open Go.RowKit
theorem putC_putN:∀ (s:List (List Int × Int)) (t:List Int) (n:Int),putC s t n = putN cmpT s n t
 | [],_,_ => rfl
 | (x,c) :: s,t,n => by
  unfold putC putN
  have ha:=cmpT_cmp.anti x t
  by_cases h1:cmpT x t < 0
  ·have h2:¬ cmpT t x < 0:=by omega
   have h3:¬ cmpT t x = 0:=by omega
   rw [if_pos h1,if_neg h2,if_neg h3,putC_putN s t n]
  ·rw [if_neg h1]
   by_cases h2:x = t
   ·subst h2
    have:=cmpT_cmp.refl x
    rw [if_pos rfl,if_neg (by omega),if_pos this]
   ·have h3:=cmpT_eq_of h1 h2
    rw [if_neg h2,if_pos h3]
theorem foldl_putN (ts:List (List Int)):∀ s,ts.foldl (fun s t => putC s t 1) s = (ts.map fun t => (t,(1:Int))).foldl (fun s p => putN cmpT s p.2 p.1) s:=by
 induction ts with
 | nil => intro s;rfl
 | cons t ts ih => intro s;rw [List.foldl_cons,List.map_cons,List.foldl_cons,ih,putC_putN]
theorem expN_one (ts:List (List Int)):expN (ts.map fun t => (t,(1:Int))) = ts:=by
 induction ts with
 | nil => rfl
 | cons t ts ih => rw [List.map_cons,expN_cons,ih];rfl
theorem sumOf_is (ts:List (List Int)):IsN cmpT (sumOf ts) ts:=by
 have h:=IsN.puts (c:=cmpT) (hc:=cmpT_cmp) (ts.map fun t => (t,(1:Int))) IsN.nil (by simp)
 rw [expN_one,List.nil_append,← foldl_putN] at h
 exact h
theorem stepC_stepN (out:List (List Int × Int)) (x:List Int):stepC id out x = stepN cmpT out x:=by
 unfold stepC stepN
 cases out.getLast? with
 | none => rfl
 | some z =>
  show (if z.1 = x then _ else _) = (if cmpT z.1 x = 0 then _ else _)
  by_cases h:z.1 = x
  ·rw [if_pos h,if_pos (by rw [h];exact cmpT_cmp.refl x)]
  ·rw [if_neg h,if_neg (fun e => h (cmpT_cmp.zero _ _ e))]
theorem runsF_runsN (ts:List (List Int)):runsF id ts = runsN cmpT ts:=by
 unfold runsF runsN
 have:(stepC (id:List Int→List Int)) = stepN cmpT:=by funext o x;exact stepC_stepN o x
 rw [this]
theorem cntOf_is (ts:List (List Int)):IsN cmpT (cntOf ts) ts:=by
 unfold cntOf
 rw [runsF_runsN]
 exact runsN_sorted cmpT_cmp (sortC_perm _) (sortC_sorted cmpT_cmp _)
theorem cntOf_sumOf (ts:List (List Int)):cntOf ts = sumOf ts:=IsN.ext cmpT_cmp (cntOf_is ts) (sumOf_is ts) (List.Perm.refl _)
end Go.Proofs.Ytofpjonggpjneaa
namespace Go.Proofs.Ytofpjonggpjneaa
open Go.RowKit
theorem cmpT_in64 {xs ys:List Int} (h1:xs.length ≤ maxLen) (h2:ys.length ≤ maxLen):In64 (cmpT xs ys):=by
 unfold maxLen at h1 h2
 unfold cmpT In64
 have:=cmpL_range ys xs
 split <;> omega
theorem a_compareTrees (xs ys:List Int):AFn Try.prog 107 [eL xs,eL ys] (· = [.val (.int (cmpT xs ys))]):=by
 refine ⟨enters_of Try.func107 rfl rfl,fun A w vs hA ⟨v1,_,e1,h1,v2,_,e2,h2,e3⟩ => ?_⟩
 subst e3;subst e2;subst e1
 obtain ⟨oa,c1,k1,m1,m2⟩:=(Rd.of (rd1 h1)).val
 obtain ⟨ob,c2,k2,m3,m4⟩:=(Rd.of (rd1 h2)).val
 refine (c_impl_compareTrees v1 v2 xs ys w (Rd.of (rd1 h1)) (Rd.of (rd1 h2))).mono ?_
 rintro e w' ⟨rfl,rfl⟩
 exact ⟨_,_,rfl,rfl,Below.refl _ _,[_],[],[],rfl,List.nodup_nil,by simp,_,[],[],[],[],[],rfl,rfl,rfl,rfl,⟨rdV_int.2 ⟨rfl,cmpT_in64 (by omega) (by omega)⟩,rfl,rfl⟩,rfl,rfl,rfl⟩
theorem a_impl_IsLevels (t:List Int):AFn Try.prog 49 [eL t] (· = [.val (.bool (lev8 t))]):=afn_L_s (v:=.bool _) (enters_of Try.func49 rfl rfl) (fun _ _ => rdV_bool.2 rfl) (fun u w h => c_impl_IsLevels u t w h)
theorem a_slicesEqual (xs ys:List Int):AFn Try.prog 104 [eL xs,eL ys] (· = [.val (.bool (decide (xs = ys)))]):=afn_LL_q (v:=.bool _) (enters_of Try.func104 rfl rfl) (fun _ _ => rdV_bool.2 rfl) (fun u1 u2 w h1 h2 => c_slicesEqual u1 u2 xs ys w h1 h2)
theorem a_impl_inRange (x y z:Int):AFn Try.prog 95 [eI x,eI y,eI z] (· = [.val (.bool (inR x y z))]):=afn_III_s (v:=.bool _) (enters_of Try.func95 rfl rfl) (fun _ _ => rdV_bool.2 rfl) (fun w => c_impl_inRange x y z w)
end Go.Proofs.Ytofpjonggpjneaa
namespace Go.Proofs.Ytofpjonggpjneaa
def rtsOk (t:List Int):Bool:=decide (cntOf (roots (canon t)) = sumOf (roots t))
theorem rts_check0:(piece8 0).all rtsOk = true:=by decide +kernel
theorem rts_check1:(piece8 1).all rtsOk = true:=by decide +kernel
theorem rts_check2:(piece8 2).all rtsOk = true:=by decide +kernel
theorem rts_check3:(piece8 3).all rtsOk = true:=by decide +kernel
theorem rts_check4:(piece8 4).all rtsOk = true:=by decide +kernel
theorem rts_check5:(piece8 5).all rtsOk = true:=by decide +kernel
theorem rts_check6:(piece8 6).all rtsOk = true:=by decide +kernel
theorem rts_check7:(piece8 7).all rtsOk = true:=by decide +kernel
theorem rts_check8:(piece8 8).all rtsOk = true:=by decide +kernel
theorem rts_check9:(piece8 9).all rtsOk = true:=by decide +kernel
theorem rts_check10:(piece8 10).all rtsOk = true:=by decide +kernel
theorem rts_check:lists8.all rtsOk = true:=pieces_all fun i hi => by
 have h:i = 0 ∨ i = 1 ∨ i = 2 ∨ i = 3 ∨ i = 4 ∨ i = 5 ∨ i = 6 ∨ i = 7 ∨ i = 8 ∨ i = 9 ∨ i = 10:=by omega
 rcases h with rfl|rfl|rfl|rfl|rfl|rfl|rfl|rfl|rfl|rfl|rfl
 ·exact rts_check0
 ·exact rts_check1
 ·exact rts_check2
 ·exact rts_check3
 ·exact rts_check4
 ·exact rts_check5
 ·exact rts_check6
 ·exact rts_check7
 ·exact rts_check8
 ·exact rts_check9
 ·exact rts_check10
theorem rts_eq {t:List Int} (h:lev8 t = true):cntOf (roots (canon t)) = sumOf (roots t):=of_decide_eq_true (lev8_all rts_check h)
end Go.Proofs.Ytofpjonggpjneaa
namespace Go.Proofs.Ytofpjonggpjneaa
open Go.RowKit
theorem parents_take_succ (t:List Int) (k:Nat) (h:k < t.length):(parents t).take (k + 1) = (parents t).take k ++ [parAt t k]:=by
 rw [List.take_succ_eq_append_getElem (by rw [parents_len];exact h),parents_get t k h]
set_option maxRecDepth 100000 in
set_option maxHeartbeats 1000000 in
theorem c_impl_parentsOf (v:Value) (t:List Int) (w:World) (h:Rd (RS RI) w [v] t) (h8:lev8 t = true) :
  Calls Try.prog 171 #[v] w (RetO (RS RI) w (parents t)):=by
 have hl8:=lev8_len h8
 have hbd:=(lev8_lev h8).bd
 obtain ⟨oa,c1,I1⟩:=h.ints
 obtain rfl:=I1.val
 have m1:=I1.le;have m2:=I1.capLe
 unfold maxLen at m2
 have HI:=Lib.hid I1
 have HB:=Lib.hid hbd
 clear I1 h hbd h8
 go_enter Try.func171,Try.ntmps171
 go_wp2_with fail
 go_loopw [3,10] (fun o i wr => ∃ (k:Nat) (z:List Int),k ≤ t.length∧i = .int .i64 k∧Hid (z = (parents t).take k)∧Hid (z.length = k)∧(∃ oa cap,o = .slice oa z.length cap)∧Hid (Own (RS RI) w.heap.size wr.heap.size wr [o] z)∧Below w.heap.size w wr) (fun _ i _ => t.length - (intOf i).toNat)
 case atStart => exact ⟨0,[],Nat.zero_le _,rfl,Lib.hid rfl,Lib.hid rfl,⟨_,_,rfl⟩,Lib.hid ((Own.empty (R:=RI) (w:=w) 3 w.heap.size (Nat.le_refl _)).top _ (by simp)),(Below.refl _ _).alloc (Nat.le_refl _) _⟩
 case round =>
  obtain ⟨k,z,hk,rfl,hz,hzl,⟨o1,cap1,rfl⟩,hown,hbel⟩:=hrel
  have hsz1:=hbel.size
  obtain ⟨wo,hwo⟩:∃ wo:World,wo = wr:=⟨_,rfl⟩
  subst hwo
  by_cases hlt:k < t.length
  ·obtain ⟨b,off,rfl,hb,hc⟩:=HI.out.get hlt
   have HC:Hid (∀ j (h:j < t.length),wo.cell? ⟨b,off + j,none⟩ = some (.int .i64 t[j])):=Lib.hid (fun j hj => (hbel.cell (p:=⟨b,off + j,none⟩) hb).trans (hc j hj))
   have gk:=HC.out k hlt
   obtain ⟨x,hx⟩:∃ x:Int,x = t[k]'hlt:=⟨_,rfl⟩
   have hxb:=HB.out k hlt
   rw [← hx] at gk hxb
   obtain ⟨x1,x2⟩:=hxb
   have hnx:=parents_take_succ t k hlt
   have hpa:parAt t k = parS t (x - 1) k:=by unfold parAt;rw [getD_get hlt,← hx]
   rw [hpa,← hz.out] at hnx
   have HN:=Lib.hid hnx
   have hwk:IntKind.i64.wrap ((k:Int) - 1) = (k:Int) - 1:=IntWalk.i64_in _ (by omega)
   have hwx:IntKind.i64.wrap (x - 1) = x - 1:=IntWalk.i64_in _ (by omega)
   have HW:Hid (wo.heap.size = wo.heap.size):=Lib.hid rfl
   clear hc hx hnx hpa
   go_wp2_with fail
   go_loopw [6] (fun i wr => ∃ (q:Nat),q ≤ k∧i = .int .i64 ((q:Int) - 1)∧Hid (∀ p,q ≤ p→p < k→t.getD p 0 ≠ x - 1)∧wr = wo) (fun i _ => (intOf i + 1).toNat)
   case atStart => exact ⟨k,Nat.le_refl _,rfl,Lib.hid (fun p a b => by omega),rfl⟩
   case round =>
    obtain ⟨q,hq,rfl,hall,rfl⟩:=hrel
    by_cases hgo:0 < q∧t.getD (q - 1) 0 ≠ x - 1
    ·obtain ⟨hq0,hne⟩:=hgo
     obtain ⟨p,rfl⟩:∃ p,q = p + 1:=⟨q - 1,by omega⟩
     have hpt:p < t.length:=by omega
     have gp:=HC.out p hpt
     rw [Nat.add_sub_cancel,getD_get hpt] at hne
     obtain ⟨y,hy⟩:∃ y:Int,y = t[p]'hpt:=⟨_,rfl⟩
     rw [← hy] at gp hne
     have HALL:Hid (∀ r,p ≤ r→r < k→t.getD r 0 ≠ x - 1):=Lib.hid (by
      intro r a b'
      by_cases hr:r = p
      ·subst hr;rw [getD_get hpt,← hy];exact hne
      ·exact hall.out r (by omega) b')
     have e1:(((p + 1:Nat):Int) - 1) = (p:Int):=by omega
     have e2:(y != x - 1) = true:=by simp [hne]
     have i1:(0:Int) ≤ (p:Int):=by omega
     have i2:(p:Int) < (t.length:Int):=by omega
     have hwp:IntKind.i64.wrap ((p:Int) - 1) = (p:Int) - 1:=IntWalk.i64_in _ (by omega)
     rw [e1]
     clear hy e1 hne
     go_wp2_with fail
     go_roundw
     case rel => exact ⟨p,by omega,by go_num,HALL,by first|rfl|trivial⟩
     case measure => simp [intOf] <;> omega
    ·have hfin:Hid (parS t (x - 1) k = (q:Int) - 1):=Lib.hid (by
      rw [parS_skip t (x - 1) q k hq hall.out]
      cases q with
      | zero => simp [parS]
      | succ p =>
       have:t.getD p 0 = x - 1:=by
        refine Decidable.byContradiction fun h => hgo ⟨by omega,by simpa using h⟩
       unfold parS
       rw [if_pos this];omega)
     have hcase:(q = 0 ∨ ∃ p,q = p + 1∧∃ hp:p < t.length,t[p] = x - 1):=by
      cases q with
      | zero => exact .inl rfl
      | succ p =>
       have hpt:p < t.length:=by omega
       refine .inr ⟨p,rfl,hpt,?_⟩
       have:t.getD p 0 = x - 1:=by
        refine Decidable.byContradiction fun h => hgo ⟨by omega,by simpa using h⟩
       rwa [getD_get hpt] at this
     have hzb:z.length ≤ 8:=by rw [hzl.out];omega
     obtain ⟨r,hr⟩:∃ r:Int,r = (q:Int) - 1:=⟨_,rfl⟩
     have hrb:-1 ≤ r∧r ≤ 8:=by omega
     obtain ⟨r1,r2⟩:=hrb
     have HR:Hid (parS t (x - 1) k = r):=Lib.hid (by rw [hfin.out,hr])
     have gcase:(r = -1 ∨ ∃ p:Nat,r = p∧p < t.length∧wr.cell? ⟨b,off + p,none⟩ = some (.int .i64 (x - 1))):=by
      rcases hcase with h|⟨p,h1,h2,h3⟩
      ·exact .inl (by omega)
      ·exact .inr ⟨p,by omega,h2,by rw [HC.out p h2,h3]⟩
     rw [← hr]
     clear hgo hfin hcase hr
     rcases gcase with rfl|⟨p,rfl,hpt,gp⟩
     case' inr =>
      have i1:(0:Int) ≤ (p:Int):=by omega
      have i2:(p:Int) < (t.length:Int):=by omega
      have e2:(x - 1 != x - 1) = false:=by simp
     all_goals
      go_wp2_with (at_builtin;refine StopAt (o:=⟨some 33,_,_,_,_,_⟩) ?_)
      refine Stop.go ?_
      refine wpList_snoc (w:=wr) (R:=RI) rfl _ _ 108 rfl 3 (.int .i64 0) 1 8 tInt rfl (.slice o1 z.length cap1) z _ [.int .i64 _] w.heap.size wr.heap.size wr.heap.size rfl hown.out (Own.int ⟨by omega,by omega⟩) (Nat.le_refl _) hsz1 3 rfl rfl (by omega) (by omega) ?_
      intro oa1 cap1' w1 hown1 c1a c1b hbel1
      have hb3:=hbel.trans hbel1
      rw [← HR.out] at hown1
      obtain ⟨z',hz'⟩:∃ z',z' = z ++ [parS t (x - 1) k]:=⟨_,rfl⟩
      have HZ:Hid (z' = (parents t).take (k + 1)):=Lib.hid (by rw [hz',HN.out])
      have e1:z.length + 1 = z'.length:=by rw [hz'];simp
      have HZL:Hid (z'.length = k + 1):=Lib.hid (by rw [← e1,hzl.out])
      rw [← hz',e1] at hown1
      have HO1:Hid (Own (RS RI) w.heap.size w1.heap.size w1 [.slice oa1 z'.length cap1'] z'):=hown1
      rw [e1]
      clear hown1 hbel1 hown e1 hz'
      go_wp2_with fail
      go_roundw
      case rel => exact ⟨k + 1,z',by omega,by go_num,HZ,HZL,⟨_,_,rfl⟩,HO1,hb3⟩
      case measure => simp [intOf];omega
  ·have hfin:Hid (z = parents t):=Lib.hid (by rw [hz.out,List.take_of_length_le (by rw [parents_len];omega)])
   go_wp2_with fail
   go_ret
   exact ⟨_,rfl,hfin.out ▸ hown.out,hbel⟩
set_option maxRecDepth 100000 in
set_option maxHeartbeats 2000000 in
theorem c_impl_nearOf (v:Value) (t:List Int) (w:World) (h:Rd (RS RI) w [v] t) (h8:lev8 t = true) :
  Calls Try.prog 167 #[v] w (RetO (RS (RS RI)) w (nears t)):=by
 have hl8:=lev8_len h8
 have hpo:=fun (W:World) (hb:Below w.heap.size w W) => c_impl_parentsOf v t W (h.below hb (Nat.le_refl _)) h8
 obtain ⟨oa,c1,rfl,m1,m2⟩:=h.val
 unfold maxLen at m2
 have HP:=Lib.hid hpo
 have hpos:=(lev8_lev h8).pos
 clear h hpo h8
 go_enter Try.func167,Try.ntmps167
 go_wp2_with (at_make;refine wpList_makeRow rfl _ _ 146 rfl 108 (.slice none 0 0) 1 24 tIntS _ _ _ _ t.length rfl rfl rfl rfl (by omega) (by unfold maxLen;omega) ?_;rintro v1 w1 hrow0 hgr0 rfl)
 rw [madeCells_nils] at hrow0
 have hb0:Below w.heap.size w w1:=Below.of_grown hgr0 (Nat.le_refl _) (fun g hg => by cases hg)
 have HO:Hid (OwnF (RS (RS RI)) [w.heap.size] w1 [.slice (some ⟨w.heap.size,0,none⟩) t.length t.length] (List.replicate t.length [])):=Lib.hid ⟨⟨_,some w.heap.size,List.replicate t.length (.slice none 0 0),[],rfl,by rw [List.length_replicate];exact hrow0,ownL_nils t.length,rfl⟩,by simp⟩
 have hg1:=hrow0.lt w.heap.size rfl
 clear hrow0 hgr0
 go_wp2_with fail
 refine (HP.out w1 hb0).mono ?_
 rintro e w2 ⟨u,rfl,o2,b2⟩
 have hpl:=parents_len t
 obtain ⟨og,ds,Gp,hrowp,help,_,hlp⟩:=o2.open
 obtain ⟨rfl,rfl,hpb⟩:=ownL_ints help
 obtain ⟨gp,rfl⟩:=hrowp.some_of (j:=0) (by rw [hpl];exact hpos)
 obtain ⟨cp,rfl,n1,n2⟩:=hrowp.slice
 have hgp:=hlp gp (by simp)
 unfold maxLen at n2
 have hb2:=hb0.trans (b2.mono hb0.size)
 have HO2:Hid (OwnF (RS (RS RI)) [w.heap.size] w2 [.slice (some ⟨w.heap.size,0,none⟩) t.length t.length] (List.replicate t.length [])):=Lib.hid (HO.out.frame (fun b hb => b2.block b (by simp at hb;omega)))
 obtain ⟨pl,hpl'⟩:∃ pl,pl = (parents t).length:=⟨_,rfl⟩
 rw [← hpl'] at n1 hrowp
 rw [← hpl']
 have HROW:=Lib.hid hrowp
 have hpt:pl = t.length:=by rw [hpl',hpl]
 have HPT:=Lib.hid hpt
 have s1:=hb0.size
 have s2:=b2.size
 obtain ⟨q1,q2⟩:=hgp
 have HPB:=Lib.hid hpb
 have HPOS:=Lib.hid hpos
 clear HO o2 hpl hpl' hrowp help hlp hpt hpb
 go_wp2_with fail
 go_loopw [12] (fun i wr => ∃ (k:Nat) (F:List Nat),k ≤ pl∧i = .int .i64 k∧Hid (OwnF (RS (RS RI)) F wr [.slice (some ⟨w.heap.size,0,none⟩) t.length t.length] (nearTo t k))∧Hid (∀ b,b ∈ F→b = w.heap.size ∨ w2.heap.size ≤ b)∧Hid (ChgF [w.heap.size] w2 wr)) (fun i _ => pl - (intOf i).toNat)
 case atStart => exact ⟨0,_,Nat.zero_le _,rfl,HO2,Lib.hid (fun b hb => .inl (by simpa using hb)),Lib.hid (ChgF.refl _ _)⟩
 case round =>
  obtain ⟨k,F,hk,rfl,hown,hF,hch⟩:=hrel
  clear HO2
  have hszr:=hch.out.size
  by_cases hlt:k < pl
  ·have hlt2:k < t.length:=by rw [← HPT.out];exact hlt
   have hrw:Row wr (.slice (some ⟨gp,0,none⟩) pl cp) 1 pl ((parents t).map (Value.int .i64)) (some gp):=HROW.out.frame (fun g hg => by cases hg;exact hch.out.block gp q2 (by simp;omega))
   have gpc:wr.cell? ⟨gp,k,none⟩ = some (.int .i64 (parAt t k)):=hrw.cells k _ (by rw [List.getElem?_map,List.getElem?_eq_getElem (by rw [parents_len];exact hlt2),parents_get t k hlt2];rfl)
   have hpr:=parS_lt t (t.getD k 0 - 1) k
   have hst:nearTo t (k + 1) = nearStep (nearTo t k) k (parAt t k):=rfl
   obtain ⟨p,hp⟩:∃ p,p = parAt t k:=⟨_,rfl⟩
   have hpr2:-1 ≤ p∧p < k:=by rw [hp];exact hpr
   obtain ⟨p1,p2⟩:=hpr2
   rw [← hp] at gpc hst
   have hnl:=nearTo_len t k
   have hne:=nearTo_each t k
   obtain ⟨near,hnear⟩:∃ near,near = nearTo t k:=⟨_,rfl⟩
   have HST:=Lib.hid hst
   have i1:(0:Int) ≤ (k:Int):=by omega
   have i2:(k:Int) < (pl:Int):=by omega
   have i3:(k:Int) < (t.length:Int):=by omega
   rw [← hnear] at hnl hne
   have HN:=Lib.hid hnear
   have hown2:=hown.out
   rw [← hnear] at hown2
   clear hpr hp hst hnear hrw
   by_cases h0:0 ≤ p
   ·obtain ⟨q,rfl⟩:∃ q:Nat,p = q:=⟨p.toNat,by omega⟩
    obtain ⟨g,cap,hh,og1,hv,_,_,hgl,hcell,hrow1,hK⟩:=hown2.innerApp k (by omega)
    simp only [Value.slice.injEq,Option.some.injEq,Addr.mk.injEq,and_true] at hv
    obtain ⟨rfl,hv2⟩:=hv
    clear hv2
    obtain ⟨oh,ch,rfl,k1,k2⟩:=hrow1.val
    unfold maxLen at k2
    have hxl:near[k].length ≤ 16:=by have:=hne _ (List.getElem_mem (by omega:k < near.length));omega
    have HK:=Lib.hid hK
    have hq2:q < near.length:=by omega
    have j1:(0:Int) ≤ (q:Int):=by omega
    have j2:(q:Int) < (t.length:Int):=by omega
    obtain ⟨xk,hxk⟩:∃ xk,xk = near[k]'(by omega):=⟨_,rfl⟩
    have hxk2:near.set k (near.getD k [] ++ [(q:Int)]) = near.set k (xk ++ [(q:Int)]):=by rw [hxk];simp [List.getD_eq_getElem?_getD,show k < near.length by omega]
    rw [← hxk] at hrow1 hcell hxl HK k1
    have HR1:=Lib.hid hrow1
    have HXK:=Lib.hid hxk2
    have HNL:=Lib.hid hnl
    have HNE:=Lib.hid hne
    clear hK hrow1 hxk hxk2 hown2 hne hnl
    go_wp2_with (at_builtin;refine StopAt (o:=⟨some 27,_,_,_,_,_⟩) ?_)
    refine Stop.go ?_
    refine wpList_append1 (w:=wr) rfl _ _ 108 rfl 3 (.int .i64 0) 1 8 tInt (.slice oh xk.length ch) xk.length _ og1 rfl HR1.out 3 [.int .i64 (q:Int)] rfl rfl rfl (by simp [Value.oneCell']) (by omega) (by unfold maxLen;omega) ?_
    intro h1 wa oga happ
    obtain ⟨f1,f2,F1,hF1,hs1,hc1⟩:=HK.out (q:Int) h1 wa oga (by unfold In64;omega) happ
    obtain ⟨o1,ca1,rfl,_⟩:=happ.1.val
    have e1:(near.set k (xk ++ [(q:Int)])).length = t.length:=by rw [List.length_set];exact HNL.out
    obtain ⟨near1,hn1⟩:∃ near1,near1 = near.set k (xk ++ [(q:Int)]):=⟨_,rfl⟩
    rw [← hn1] at hF1 e1
    obtain ⟨W3,hW3⟩:∃ W3,W3 = wa.setCell ⟨w.heap.size,k,none⟩ (.slice o1 (xk.length + 1) ca1):=⟨_,rfl⟩
    have hx1:∀ x ∈ near1,x.length ≤ 17:=by
     intro x hx
     rw [hn1] at hx
     rcases List.mem_or_eq_of_mem_set hx with hx|rfl
     ·have:=HNE.out x hx;omega
     ·rw [List.length_append,List.length_singleton];omega
    rw [← hW3] at hF1 hc1
    obtain ⟨g,cap,hh,og2,hv,_,_,hgl2,hcell2,hrow2,hK2⟩:=hF1.innerApp q (by omega)
    simp only [Value.slice.injEq,Option.some.injEq,Addr.mk.injEq,and_true] at hv
    obtain ⟨rfl,hv2⟩:=hv
    clear hv2
    obtain ⟨oy,cy,rfl,y1,y2⟩:=hrow2.val
    unfold maxLen at y2
    have hyl:near1[q].length ≤ 17:=by have:=hx1 _ (List.getElem_mem (by omega:q < near1.length));omega
    obtain ⟨xq,hxq⟩:∃ xq,xq = near1[q]'(by omega):=⟨_,rfl⟩
    have hxq2:near1.set q (near1.getD q [] ++ [(k:Int)]) = near1.set q (xq ++ [(k:Int)]):=by rw [hxq];simp [List.getD_eq_getElem?_getD,show q < near1.length by omega]
    rw [← hxq] at hrow2 hcell2 hyl hK2 y1
    have HK2:=Lib.hid hK2
    have HR2:=Lib.hid hrow2
    have HXQ:=Lib.hid hxq2
    have HN1:=Lib.hid hn1
    have HS1:=Lib.hid hs1
    have HC1:=Lib.hid hc1
    have hqk:¬ q = k:=by omega
    have hcell3:wa.cell? ⟨w.heap.size,q,none⟩ = some (.slice oy xq.length cy):=by
     rw [hW3] at hcell2
     have hne':(⟨w.heap.size,k,none⟩:Addr) ≠ ⟨w.heap.size,q,none⟩:=by intro h;injection h;omega
     exact (World.cell?_setCell_other wa _ _ _ hne').symm.trans hcell2
    have HW3:=Lib.hid hW3
    clear happ hF1 hs1 hc1 hK2 hrow2 hxq hxq2 hn1 e1 hx1 hW3
    go_wp2_with (at_builtin;refine StopAt (o:=⟨some 37,_,_,_,_,_⟩) ?_)
    refine Stop.go ?_
    obtain rfl:=HW3.out
    refine wpList_append1 (w:=wa.setCell ⟨w.heap.size,k,none⟩ (.slice o1 (xk.length + 1) ca1)) rfl _ _ 108 rfl 3 (.int .i64 0) 1 8 tInt (.slice oy xq.length cy) xq.length _ og2 rfl HR2.out 3 [.int .i64 (k:Int)] (H:=wa.heap.size) rfl (World.size_setCell ..).symm rfl (by simp [Value.oneCell']) (by omega) (by unfold maxLen;omega) ?_
    intro h2 wb ogb happ2
    obtain ⟨f3,f4,F2,hF2,hs2,hc2⟩:=HK2.out (k:Int) h2 wb ogb (by unfold In64;omega) happ2
    obtain ⟨o2,ca2,rfl,_⟩:=happ2.1.val
    have HFB:Hid (∀ b,b ∈ F2→b = w.heap.size ∨ w2.heap.size ≤ b):=Lib.hid (fun b hb => by
     rcases hs2 b hb with hb|hb
     ·rcases HS1.out b hb with hb|hb
      ·exact hF.out b hb
      ·right;omega
     ·have:=HC1.out.size;right;omega)
    have HCH:Hid (ChgF [w.heap.size] w2 (wb.setCell ⟨w.heap.size,q,none⟩ (.slice o2 (xq.length + 1) ca2))):=Lib.hid ((hch.out.trans' HC1.out (fun x hx => by
      rcases hF.out x hx with h|h
      ·exact .inl (by simp [h])
      ·exact .inr h)).trans' hc2 (fun x hx => by
      rcases HS1.out x hx with h|h
      ·rcases hF.out x h with h|h
       ·exact .inl (by simp [h])
       ·exact .inr h
      ·exact .inr (by omega)))
    have HFIN:Hid (OwnF (RS (RS RI)) F2 (wb.setCell ⟨w.heap.size,q,none⟩ (.slice o2 (xq.length + 1) ca2)) [.slice (some ⟨w.heap.size,0,none⟩) t.length t.length] (nearTo t (k + 1))):=Lib.hid (by
     rw [HST.out]
     unfold nearStep
     rw [if_pos j1,← HN.out,HXK.out,← HN1.out,Int.toNat_natCast,HXQ.out]
     exact hF2)
    clear happ2 hF2 hs2 hc2
    go_wp2_with fail
    go_roundw
    case rel => exact ⟨k + 1,F2,by omega,by go_num,HFIN,HFB,HCH⟩
    case measure => simp [intOf] <;> omega
   ·obtain rfl:p = -1:=by omega
    have HFIN:Hid (OwnF (RS (RS RI)) F wr [.slice (some ⟨w.heap.size,0,none⟩) t.length t.length] (nearTo t (k + 1))):=Lib.hid (by
     rw [HST.out]
     unfold nearStep
     rw [if_neg (by omega)]
     exact hown.out)
    clear h0 hown2 hnl hne
    go_wp2_with fail
    go_roundw
    case rel => exact ⟨k + 1,F,by omega,by go_num,HFIN,hF,hch⟩
    case measure => simp [intOf] <;> omega
  ·have HFIN:Hid (Own (RS (RS RI)) w.heap.size wr.heap.size wr [.slice (some ⟨w.heap.size,0,none⟩) t.length t.length] (nears t)):=Lib.hid (by
    have h1:=hown.out
    rw [show k = t.length by have:=HPT.out;omega] at h1
    refine OwnF.to h1 (fun b hb => ⟨?_,h1.lt b hb⟩)
    rcases hF.out b hb with h|h <;> omega)
   have hbf:Below w.heap.size w wr:=hb2.trans (hch.out.below (by omega) (fun b hb => by simp at hb;omega))
   go_wp2_with fail
   go_ret
   exact ⟨_,rfl,HFIN.out,hbf⟩
end Go.Proofs.Ytofpjonggpjneaa
namespace Go.Proofs.Ytofpjonggpjneaa
open Go.RowKit
theorem sumLen_sublist {l m:List (List Int)} (h:l.Sublist m):sumLen l ≤ sumLen m:=by
 induction h with
 | slnil => exact Nat.le_refl _
 | cons a _ ih => simp only [sumLen,List.map_cons,List.sum_cons] at *;omega
 | cons_cons a _ ih => simp only [sumLen,List.map_cons,List.sum_cons] at *;omega
theorem len_le_sumLen:∀ bs:List (List Int),(∀ b ∈ bs,LevP b)→bs.length ≤ sumLen bs:=by
 intro bs
 induction bs with
 | nil => intro _;simp [sumLen]
 | cons b bs ih =>
  intro hb
  have:=ih (fun c hc => hb c (by simp [hc]))
  have:=(hb b (by simp)).pos
  simp only [sumLen,List.map_cons,List.sum_cons,List.length_cons] at *
  omega
def seen (f:Nat) (near:List (List Int)) (root from':Int) (xs:List Int):List (List Int):=(xs.filter fun x => decide (x ≠ from')).map fun x => treeF f near x root
theorem seen_lev (f:Nat) (near:List (List Int)) (root from':Int) (xs:List Int):∀ b ∈ seen f near root from' xs,LevP b:=by
 intro b hb
 obtain ⟨x,_,rfl⟩:=List.mem_map.1 hb
 exact (treeF_both f near x root).1
theorem seen_take (f:Nat) (near:List (List Int)) (root from':Int) (xs:List Int) (k:Nat):(seen f near root from' (xs.take k)).Sublist (seen f near root from' xs) :=
 (((List.take_sublist k xs).filter _).map _)
theorem seen_succ (f:Nat) (near:List (List Int)) (root from':Int) (xs:List Int) (k:Nat) (h:k < xs.length) :
  seen f near root from' (xs.take (k + 1)) = seen f near root from' (xs.take k) ++ (if xs[k] = from' then [] else [treeF f near xs[k] root]):=by
 unfold seen
 rw [List.take_succ_eq_append_getElem h,List.filter_append,List.map_append]
 congr 1
 by_cases e:xs[k] = from'
 ·simp [e]
 ·simp [e]
theorem treeF_succ (f:Nat) (near:List (List Int)) (root from':Int):treeF (f + 1) near root from' = canon (rootOn (seen f near root from' (near.getD root.toNat []))):=rfl
theorem treeSm_succ (f:Nat) (near:List (List Int)) (root from':Int):treeSm (f + 1) near root from' = sumLen (seen f near root from' (near.getD root.toNat [])) + 1:=by
 rw [← (treeF_both (f + 1) near root from').2,treeF_succ,canon_len (rootOn_lev (seen_lev _ _ _ _ _)),rootOn_len]
theorem treeSm_sub {f:Nat} {near:List (List Int)} {root from':Int} {x:Int} (hx:x ∈ near.getD root.toNat []) (hne:x ≠ from'):treeSm f near x root + 1 ≤ treeSm (f + 1) near root from':=by
 rw [treeSm_succ,← (treeF_both f near x root).2]
 have:treeF f near x root ∈ seen f near root from' (near.getD root.toNat []):=List.mem_map.2 ⟨x,List.mem_filter.2 ⟨hx,by simp [hne]⟩,rfl⟩
 have:=sumLen_mem this
 omega
set_option maxRecDepth 100000 in
set_option maxHeartbeats 2000000 in
theorem c_impl_treeFrom:∀ (f:Nat) (v:Value) (near:List (List Int)) (root from':Int) (w:World),Rd (RS (RS RI)) w [v] near→treeOk f near root from' = true→treeSm f near root from' ≤ 13 →
  Calls Try.prog 168 #[v,.int .i64 root,.int .i64 from'] w (RetO (RS RI) w (treeF f near root from')):=by
 intro f
 induction f with
 | zero => intro v near root from' w _ h;cases h
 | succ f ih =>
 intro v near root from' w h hok hsm
 simp only [treeOk,Bool.and_eq_true,decide_eq_true_eq] at hok
 obtain ⟨hr0,hr1,hall⟩:=hok
 obtain ⟨r,rfl⟩:∃ r:Nat,root = r:=⟨root.toNat,by omega⟩
 have hrl:r < near.length:=by omega
 have hnr:near.getD (r:Int).toNat [] = near[r]:=by rw [Int.toNat_natCast];simp [hrl]
 have hsub:=fun x (hx:x ∈ near[r]) (hne:x ≠ from') => treeSm_sub (f:=f) (near:=near) (root:=(r:Int)) (from':=from') (x:=x) (by rw [hnr];exact hx) hne
 rw [treeF_succ]
 rw [treeSm_succ] at hsm
 rw [hnr] at hsm hall
 rw [hnr]
 have hrdn:=h
 obtain ⟨oa,cap,L⟩:=h.lists
 obtain rfl:=L.val
 have m1:=L.le;have m2:=L.capLe
 obtain ⟨b,off,rfl,hb,hc⟩:=L.get hrl
 obtain ⟨oi,ci,g1,hrd,q1,q2⟩:=hc r hrl
 obtain ⟨xs,hxs⟩:∃ xs,xs = near[r]:=⟨_,rfl⟩
 rw [← hxs] at g1 hrd q1 hsm hall hsub
 rw [← hxs]
 obtain ⟨oa2,c2,I⟩:=hrd.ints
 have hval:=I.val
 simp only [Value.slice.injEq,true_and] at hval
 obtain ⟨rfl,rfl⟩:=hval
 have HI:=Lib.hid I
 have HSM:=Lib.hid hsm
 have HIH:Hid (∀ x ∈ xs,x ≠ from'→∀ W,Below w.heap.size w W→Calls Try.prog 168 #[.slice (some ⟨b,off,none⟩) near.length cap,.int .i64 x,.int .i64 (r:Int)] W (RetO (RS RI) W (treeF f near x r))):=Lib.hid (by
  intro x hx hne W hbW
  refine ih _ near x r W (hrdn.below hbW (Nat.le_refl _)) ?_ (by have:=hsub x hx hne;rw [treeSm_succ,hnr,← hxs] at this;omega)
  have:=List.all_eq_true.1 hall x hx
  simp only [Bool.or_eq_true,decide_eq_true_eq] at this
  exact this.resolve_left hne)
 have i1:(0:Int) ≤ (r:Int):=by omega
 have i2:(r:Int) < (near.length:Int):=by omega
 obtain ⟨nl,hnl⟩:∃ nl,nl = near.length:=⟨_,rfl⟩
 rw [← hnl] at m1 HIH i2
 rw [← hnl]
 have hrnl:r < nl:=by omega
 clear L hc hrd hxs I hsm hall hsub ih hrdn hnr hr0 hr1 hnl hrl
 go_enter Try.func168,Try.ntmps168
 go_wp2_with fail
 go_loopw [7,16] (fun o i wr => ∃ (k:Nat) (z:List (List Int)),k ≤ xs.length∧i = .int .i64 k∧Hid (z = seen f near r from' (xs.take k))∧Hid (z.length ≤ 12)∧(∃ oa cap,o = .slice oa z.length cap)∧Hid (Own (RS (RS RI)) w.heap.size wr.heap.size wr [o] z)∧Below w.heap.size w wr) (fun _ i _ => xs.length - (intOf i).toNat)
 case atStart => exact ⟨0,[],Nat.zero_le _,rfl,Lib.hid rfl,Lib.hid (by simp),⟨_,_,rfl⟩,Lib.hid ((Own.empty (R:=RS RI) (w:=w) 24 w.heap.size (Nat.le_refl _)).top _ (by simp)),(Below.refl _ _).alloc (Nat.le_refl _) _⟩
 case round =>
  obtain ⟨k,z,hk,rfl,hz,hzl,⟨o1,cap1,rfl⟩,hown,hbel⟩:=hrel
  have hsz1:=hbel.size
  by_cases hlt:k < xs.length
  ·obtain ⟨b2,off2,rfl,hb2,hc2⟩:=HI.out.get hlt
   have g2:wr.cell? ⟨b2,off2 + k,none⟩ = some (.int .i64 xs[k]):=(hbel.cell (p:=⟨b2,off2 + k,none⟩) hb2).trans (hc2 k hlt)
   have hbx:=HI.out.b hlt
   unfold In64 at hbx
   have hsc:=seen_succ f near r from' xs k hlt
   rw [← hz.out] at hsc
   have hzl2:(seen f near r from' (xs.take (k + 1))).length ≤ 12:=by
    have h1:=len_le_sumLen _ (seen_lev f near r from' (xs.take (k + 1)))
    have h2:=sumLen_sublist (seen_take f near r from' xs (k + 1))
    have:=HSM.out
    omega
   have hih:=HIH.out xs[k] (List.getElem_mem hlt)
   obtain ⟨x,hx⟩:∃ x:Int,x = xs[k]'hlt:=⟨_,rfl⟩
   rw [← hx] at g2 hsc hih hbx
   obtain ⟨x1,x2⟩:=hbx
   clear hc2 hx
   by_cases hne:x = from'
   ·have hnb:(x != from') = false:=by simp [hne]
    have HZ:Hid (z = seen f near r from' (xs.take (k + 1))):=Lib.hid (by rw [hsc,if_pos hne,List.append_nil])
    clear hsc hih hzl2 hne
    go_wp2_with fail
    go_roundw
    case rel => exact ⟨k + 1,z,by omega,by go_num,HZ,hzl,⟨_,_,rfl⟩,hown,hbel⟩
    case measure => simp [intOf] <;> omega
   ·have hnb:(x != from') = true:=by simp [hne]
    have hcl:=hih hne wr hbel
    rw [if_neg hne] at hsc
    obtain ⟨y,hy⟩:∃ y,y = treeF f near x r:=⟨_,rfl⟩
    rw [← hy] at hsc hcl
    have HN:=Lib.hid hsc
    have HZL2:=Lib.hid hzl2
    have hzb:z.length ≤ 12:=hzl.out
    clear hsc hih hzl2 hne hy
    go_wp2_with fail
    refine hcl.mono ?_
    rintro e w2 ⟨u,rfl,o2,b2'⟩
    obtain ⟨ou,cu,rfl,lu1,lu2⟩:=o2.val
    go_wp2_with (at_builtin;refine StopAt (o:=⟨some 29,_,_,_,_,_⟩) ?_)
    refine Stop.go ?_
    have hb2'':=b2'.size
    refine wpList_snoc (w:=w2) (R:=RS RI) rfl _ _ 30 rfl 24 (.slice none 0 0) 1 24 tI64S rfl (.slice o1 z.length cap1) z y [.slice ou y.length cu] w.heap.size wr.heap.size w2.heap.size rfl (hown.out.below b2' (Nat.le_refl _)) o2 hb2'' hsz1 24 rfl rfl (by omega) (by omega) ?_
    intro oa1 cap1' w1 hown1 c1a c1b hbel1
    have hb3:=(hbel.trans (b2'.mono hsz1)).trans hbel1
    obtain ⟨z',hz'⟩:∃ z',z' = z ++ [y]:=⟨_,rfl⟩
    have HZ:Hid (z' = seen f near r from' (xs.take (k + 1))):=Lib.hid (by rw [hz',HN.out])
    have e1:z.length + 1 = z'.length:=by rw [hz'];simp
    have HZL:Hid (z'.length ≤ 12):=Lib.hid (by rw [HZ.out];exact HZL2.out)
    rw [← hz',e1] at hown1
    have HO:Hid (Own (RS (RS RI)) w.heap.size w1.heap.size w1 [.slice oa1 z'.length cap1'] z'):=hown1
    rw [e1]
    clear hown1 hbel1 hown e1 hz' o2 hcl
    go_wp2_with fail
    go_roundw
    case rel => exact ⟨k + 1,z',by omega,by go_num,HZ,HZL,⟨_,_,rfl⟩,HO,hb3⟩
    case measure => simp [intOf] <;> omega
  ·have hfin:Hid (z = seen f near r from' xs):=Lib.hid (by rw [hz.out,List.take_of_length_le (by omega)])
   have hlv:∀ b ∈ z,LevP b:=by rw [hfin.out];exact seen_lev _ _ _ _ _
   have hsl:sumLen z + 1 ≤ 13:=by rw [hfin.out];exact HSM.out
   have hro:=c_impl_rootOn _ z wr hown.out.rd (Small.of_lev hlv (by omega)) (by omega)
   have HCN:Hid (∀ W v,Rd (RS RI) W [v] (rootOn z)→Calls Try.prog 105 #[v] W (RetO (RS RI) W (canon (rootOn z)))):=Lib.hid (fun W v r => c_impl_canonical 13 v _ W r (rootOn_lev hlv) (by rw [rootOn_len];omega) (by rw [rootOn_len];omega))
   clear hlv hsl
   go_wp2_with fail
   refine hro.mono ?_
   rintro e w2 ⟨u,rfl,o2,b2'⟩
   go_wp2_with fail
   refine (HCN.out _ _ o2.rd).mono ?_
   rintro e w3 ⟨u3,rfl,o3,b3⟩
   go_wp2_with fail
   go_ret
   have s2:=b2'.size
   exact ⟨_,rfl,by rw [← hfin.out];exact o3.mono (by omega) (Nat.le_refl _),hbel.trans ((b2'.trans (b3.mono s2)).mono hsz1)⟩
end Go.Proofs.Ytofpjonggpjneaa
namespace Go.Proofs.Ytofpjonggpjneaa
open Go.RowKit
def runTo (bs:List (List Int)):Nat→Int
 | 0 => 0
 | k + 1 => if k = 0 ∨ bs.getD (k - 1) [] = bs.getD k [] then runTo bs k + 1 else 1
def symTo (s:List Int→Int) (bs:List (List Int)):Nat→Int
 | 0 => 1
 | k + 1 => wrap64 (symTo s bs k * (runTo bs (k + 1) * s (bs.getD k [])))
def symF:Nat→List Int→Int
 | 0,_ => 0
 | f + 1,t => symTo (symF f) (forest (brs (canon t))) (forest (brs (canon t))).length
set_option maxRecDepth 100000 in
set_option maxHeartbeats 400000 in
theorem c_impl_length (v:Value) (t:List Int) (w:World) (h:Rd (RS RI) w [v] t):Calls Try.prog 100 #[v] w (RetS w (.int .i64 t.length)):=by
 obtain ⟨oa,c1,rfl,m1,m2⟩:=h.val
 unfold maxLen at m2
 go_enter Try.func100,Try.ntmps100
 go_wp2_with fail
 go_ret
 exact ⟨rfl,rfl⟩
end Go.Proofs.Ytofpjonggpjneaa
namespace Go.Proofs.Ytofpjonggpjneaa
open Go.RowKit
theorem roots_len (t:List Int):(roots t).length = t.length:=by simp [roots]
theorem roots_get (t:List Int) (k:Nat) (h:k < t.length):(roots t)[k]'(by rw [roots_len];exact h) = turnF 8 t k:=by simp [roots]
theorem roots_take_succ (t:List Int) (k:Nat) (h:k < t.length):(roots t).take (k + 1) = (roots t).take k ++ [turnF 8 t k]:=by
 rw [List.take_succ_eq_append_getElem (by rw [roots_len];exact h),roots_get t k h]
set_option maxRecDepth 100000 in
set_option maxHeartbeats 2000000 in
theorem c_impl_rooted (v:Value) (t:List Int) (w:World) (h:Rd (RS RI) w [v] t) (h8:lev8 t = true) :
  Calls Try.prog 117 #[v] w (RetO (RS (RS RI)) w (roots (canon t))):=by
 have hl8:=lev8_len h8
 have hcn:=c_impl_canonical 13 v t w h (lev8_lev h8) (by omega) (by omega)
 have hro:=fun (i:Nat) (hi:i < t.length) => root_ok h8 hi
 have hcl:=canon_len (lev8_lev h8)
 have hc8:=lev8_canon h8
 obtain ⟨ct,hct⟩:∃ ct,ct = canon t:=⟨_,rfl⟩
 rw [← hct] at hcn hro hcl hc8
 rw [← hct]
 have HNR:Hid (∀ W v,Rd (RS RI) W [v] ct→Calls Try.prog 167 #[v] W (RetO (RS (RS RI)) W (nears ct))):=Lib.hid (fun W v r => c_impl_nearOf v ct W r hc8)
 have HTF:Hid (∀ (W:World) (v:Value) (i:Nat),i < ct.length→Rd (RS (RS RI)) W [v] (nears ct)→Calls Try.prog 168 #[v,.int .i64 i,.int .i64 (-1)] W (RetO (RS RI) W (turnF 8 ct i))):=Lib.hid (fun W v i hi r => by
  have h1:=hro i (by omega)
  have:=c_impl_treeFrom 9 v (nears ct) i (-1) W r h1.1 h1.2.1
  rw [h1.2.2] at this
  exact this)
 have hnl:(nears ct).length = ct.length:=nearTo_len ct _
 have hcb:ct.length ≤ 8:=by omega
 obtain ⟨cl,hcl'⟩:∃ cl,cl = ct.length:=⟨_,rfl⟩
 rw [← hcl'] at HTF hnl hcb
 have HCL:=Lib.hid hcl'
 have HNL:=Lib.hid hnl
 clear hct hro hcl hc8 hnl hcl' h8 h
 go_enter Try.func117,Try.ntmps117
 go_wp2_with fail
 refine hcn.mono ?_
 rintro e w1 ⟨u1,rfl,o1,b1⟩
 go_wp2_with fail
 refine (HNR.out _ _ o1.rd).mono ?_
 rintro e w2 ⟨u2,rfl,o2,b2⟩
 obtain ⟨on,cn,rfl,n1,n2⟩:=o2.val
 rw [HNL.out] at o2 n1
 rw [HNL.out]
 have HO2:Hid (Rd (RS (RS RI)) w2 [.slice on cl cn] (nears ct)):=Lib.hid o2.rd
 have s1:=b1.size
 have hb2:=b1.trans (b2.mono s1)
 have s2:=hb2.size
 clear o1 o2 hcn b1 b2
 go_wp2_with fail
 go_loopw [4,12] (fun o i wr => ∃ (k:Nat) (z:List (List Int)),k ≤ cl∧i = .int .i64 k∧Hid (z = (roots ct).take k)∧Hid (z.length = k)∧(∃ oa cap,o = .slice oa z.length cap)∧Hid (Own (RS (RS RI)) w2.heap.size wr.heap.size wr [o] z)∧Below w2.heap.size w2 wr) (fun _ i _ => cl - (intOf i).toNat)
 case atStart => exact ⟨0,[],Nat.zero_le _,rfl,Lib.hid rfl,Lib.hid rfl,⟨_,_,rfl⟩,Lib.hid ((Own.empty (R:=RS RI) (w:=w2) 24 w2.heap.size (Nat.le_refl _)).top _ (by simp)),(Below.refl _ _).alloc (Nat.le_refl _) _⟩
 case round =>
  obtain ⟨k,z,hk,rfl,hz,hzl,⟨o1,cap1,rfl⟩,hown,hbel⟩:=hrel
  have hsz1:=hbel.size
  by_cases hlt:k < cl
  ·have hlt2:k < ct.length:=by rw [← HCL.out];exact hlt
   have htf:=HTF.out wr (.slice on cl cn) k hlt (HO2.out.below hbel (Nat.le_refl _))
   have hnx:=roots_take_succ ct k hlt2
   rw [← hz.out] at hnx
   obtain ⟨y,hy⟩:∃ y,y = turnF 8 ct k:=⟨_,rfl⟩
   rw [← hy] at hnx htf
   have HN:=Lib.hid hnx
   have hzb:z.length ≤ 8:=by rw [hzl.out];omega
   clear hy hnx
   go_wp2_with fail
   refine htf.mono ?_
   rintro e w3 ⟨u,rfl,o3,b3⟩
   obtain ⟨ou,cu,rfl,lu1,lu2⟩:=o3.val
   go_wp2_with (at_builtin;refine StopAt (o:=⟨some 20,_,_,_,_,_⟩) ?_)
   refine Stop.go ?_
   have hb3:=b3.size
   refine wpList_snoc (w:=w3) (R:=RS RI) rfl _ _ 30 rfl 24 (.slice none 0 0) 1 24 tI64S rfl (.slice o1 z.length cap1) z y [.slice ou y.length cu] w2.heap.size wr.heap.size w3.heap.size rfl (hown.out.below b3 (Nat.le_refl _)) o3 hb3 hsz1 24 rfl rfl (by omega) (by omega) ?_
   intro oa1 cap1' w4 hown1 c1a c1b hbel1
   have hb4:=(hbel.trans (b3.mono hsz1)).trans hbel1
   obtain ⟨z',hz'⟩:∃ z',z' = z ++ [y]:=⟨_,rfl⟩
   have HZ:Hid (z' = (roots ct).take (k + 1)):=Lib.hid (by rw [hz',HN.out])
   have e1:z.length + 1 = z'.length:=by rw [hz'];simp
   have HZL:Hid (z'.length = k + 1):=Lib.hid (by rw [← e1,hzl.out])
   rw [← hz',e1] at hown1
   have HO:Hid (Own (RS (RS RI)) w2.heap.size w4.heap.size w4 [.slice oa1 z'.length cap1'] z'):=hown1
   rw [e1]
   clear hown1 hbel1 hown e1 hz' o3 htf
   go_wp2_with fail
   go_roundw
   case rel => exact ⟨k + 1,z',by omega,by go_num,HZ,HZL,⟨_,_,rfl⟩,HO,hb4⟩
   case measure => simp [intOf] <;> omega
  ·have hfin:Hid (z = roots ct):=Lib.hid (by rw [hz.out,List.take_of_length_le (by rw [roots_len,← HCL.out];omega)])
   go_wp2_with fail
   go_ret
   exact ⟨_,rfl,hfin.out ▸ hown.out.mono s2 (Nat.le_refl _),hb2.trans (hbel.mono s2)⟩
def rrOf (t:List Int) (node:Int):List Int × Int :=
 if lev8 t = true then (if inR node 0 ((t.length:Int) - 1) = true then (turnF 8 (canon t) node.toNat,0) else ([],2)) else ([],1)
theorem rrOf_bad {t:List Int} {node:Int} (h:lev8 t = false):rrOf t node = ([],1):=by unfold rrOf;rw [if_neg (by simp [h])]
theorem rrOf_range {t:List Int} {node:Int} (h:lev8 t = true) (h2:inR node 0 ((t.length:Int) - 1) = false):rrOf t node = ([],2):=by unfold rrOf;rw [if_pos h,if_neg (by simp [h2])]
theorem rrOf_ok {t:List Int} {m:Nat} (h:lev8 t = true) (h2:inR (m:Int) 0 ((t.length:Int) - 1) = true):rrOf t m = (turnF 8 (canon t) m,0):=by unfold rrOf;rw [if_pos h,if_pos h2];rfl
set_option maxRecDepth 100000 in
set_option maxHeartbeats 2000000 in
theorem k_impl_RerootAt (v:Value) (node:Int) (t:List Int) (w:World) (h:Rd (RS RI) w [v] t) (hnode:In64 node) :
  Calls Try.prog 37 #[v,.int .i64 node] w (RetOC (RS RI) w (rrOf t node).1 (rrOf t node).2):=by
 have hlv:=c_impl_IsLevels v t w h
 have hln:=c_impl_length v t w h
 have hir:=c_impl_inRange node 0 ((t.length:Int) - 1) w
 have hval:=h.val
 obtain ⟨oa,c1,rfl,m1,m2⟩:=hval
 unfold maxLen at m2
 have hw1:IntKind.i64.wrap ((t.length:Int) - 1) = (t.length:Int) - 1:=IntWalk.i64_in _ (by omega)
 cases h8:lev8 t
 ·have hr:=Lib.hid (rrOf_bad (node:=node) h8)
  rw [h8] at hlv
  go_enter Try.func37,Try.ntmps37
  go_wp2_with (go_at_call 49;refine hlv.mono ?_;rintro e w' ⟨rfl,rfl⟩)
  go_ret2
  exact ⟨_,by rw [hr.out];rfl,by rw [hr.out];exact Own.nil _ _,Below.refl _ _⟩
 ·rw [h8] at hlv
  cases hin:inR node 0 ((t.length:Int) - 1)
  ·have hr:=Lib.hid (rrOf_range h8 hin)
   rw [hin] at hir
   go_enter Try.func37,Try.ntmps37
   go_wp2_with (first|(go_at_call 49;refine hlv.mono ?_;rintro e w' ⟨rfl,rfl⟩)|(go_at_call 100;refine hln.mono ?_;rintro e w' ⟨rfl,rfl⟩)|(go_at_call 95;refine hir.mono ?_;rintro e w' ⟨rfl,rfl⟩))
   go_ret2
   exact ⟨_,by rw [hr.out];rfl,by rw [hr.out];exact Own.nil _ _,Below.refl _ _⟩
  ·rw [hin] at hir
   have hin2:=hin
   unfold inR at hin2
   simp only [Bool.and_eq_true,decide_eq_true_eq] at hin2
   obtain ⟨m,rfl⟩:∃ m:Nat,node = m:=⟨node.toNat,by omega⟩
   have hr:=Lib.hid (rrOf_ok h8 hin)
   have hrt:=c_impl_rooted _ t w h h8
   have hcl:=canon_len (lev8_lev h8)
   have hrl:=roots_len (canon t)
   rw [hcl] at hrl
   have hml:m < t.length:=by omega
   have hrg:=roots_get (canon t) m (by rw [hcl];exact hml)
   obtain ⟨rs,hrs⟩:∃ rs,rs = roots (canon t):=⟨_,rfl⟩
   have hrg2:∀ hm:m < rs.length,rs[m]'hm = turnF 8 (canon t) m:=by intro hm;subst hrs;exact hrg
   rw [← hrs] at hrt hrl
   have HRG:=Lib.hid hrg2
   have HRL:=Lib.hid hrl
   have i1:(0:Int) ≤ (m:Int):=by omega
   have i2:(m:Int) < (t.length:Int):=by omega
   clear hcl hrg hrg2 hrs h8 hin h hrl
   go_enter Try.func37,Try.ntmps37
   go_wp2_with (first|(go_at_call 49;refine hlv.mono ?_;rintro e w' ⟨rfl,rfl⟩)|(go_at_call 100;refine hln.mono ?_;rintro e w' ⟨rfl,rfl⟩)|(go_at_call 95;refine hir.mono ?_;rintro e w' ⟨rfl,rfl⟩))
   refine hrt.mono ?_
   rintro e w1 ⟨u,rfl,o1,b1⟩
   obtain ⟨g,cap,h0,hv,_,_,hg1,hg2,hcell,hel⟩:=o1.elem m (by rw [HRL.out];exact hml)
   subst hv
   rw [HRL.out]
   rw [HRG.out] at hel
   have HEL:=Lib.hid hel
   obtain ⟨o0,c0,rfl,_⟩:=hel.val
   clear hel o1
   go_wp2_with fail
   go_ret2
   exact ⟨_,by rw [hr.out];rfl,by rw [hr.out];exact HEL.out,b1⟩
set_option maxRecDepth 100000 in
set_option maxHeartbeats 2000000 in
theorem k_spec_RerootAt (v:Value) (node:Int) (t:List Int) (w:World) (h:Rd (RS RI) w [v] t) (hnode:In64 node) (hsz:t.length ≤ 1048576) :
  Calls Try.prog 38 #[v,.int .i64 node] w (RetOC (RS RI) w (rrOf t node).1 (rrOf t node).2):=by
 have hlv:=c_spec_l03Is v t w h (by omega)
 have HIR:Hid (∀ W:World,Calls Try.prog 97 #[.int .i64 node,.int .i64 0,.int .i64 ((t.length:Int) - 1)] W (RetS W (.bool (inR node 0 ((t.length:Int) - 1))))):=Lib.hid (fun W => c_spec_l01In node 0 ((t.length:Int) - 1) W)
 have hval:=h.val
 obtain ⟨oa,c1,rfl,m1,m2⟩:=hval
 unfold maxLen at m2
 have hw1:IntKind.i64.wrap ((t.length:Int) - 1) = (t.length:Int) - 1:=IntWalk.i64_in _ (by omega)
 cases h8:lev8 t
 ·have hr:=Lib.hid (rrOf_bad (node:=node) h8)
  rw [h8] at hlv
  go_enter Try.func38,Try.ntmps38
  go_wp2_with (go_at_call 110;refine hlv.mono ?_;rintro e w' ⟨rfl,nd,rfl⟩)
  go_ret2
  exact ⟨_,by rw [hr.out];rfl,by rw [hr.out];exact Own.nil _ _,Below.drewN _ _ _⟩
 ·rw [h8] at hlv
  cases hin:inR node 0 ((t.length:Int) - 1)
  ·have hr:=Lib.hid (rrOf_range h8 hin)
   rw [hin] at HIR
   go_enter Try.func38,Try.ntmps38
   go_wp2_with (first|(go_at_call 110;refine hlv.mono ?_;rintro e w' ⟨rfl,nd,rfl⟩)|(go_at_call 97;refine (HIR.out _).mono ?_;rintro e w' ⟨rfl,rfl⟩))
   go_ret2
   exact ⟨_,by rw [hr.out];rfl,by rw [hr.out];exact Own.nil _ _,Below.drewN _ _ _⟩
  ·rw [hin] at HIR
   have hin2:=hin
   unfold inR at hin2
   simp only [Bool.and_eq_true,decide_eq_true_eq] at hin2
   obtain ⟨m,rfl⟩:∃ m:Nat,node = m:=⟨node.toNat,by omega⟩
   have hr:=Lib.hid (rrOf_ok h8 hin)
   have hl8:=lev8_len h8
   have HCN:Hid (∀ nd:Nat,Calls Try.prog 112 #[.slice oa t.length c1] (w.drewN nd) (RetO (RS RI) (w.drewN nd) (canon t))):=Lib.hid (fun nd => c_spec_l03Canon 8 _ t _ (h.of_heap rfl) (lev8_lev h8) (by omega) (by omega))
   have hc8:=lev8_canon h8
   have hcl:=canon_len (lev8_lev h8)
   obtain ⟨ct,hct⟩:∃ ct,ct = canon t:=⟨_,rfl⟩
   rw [← hct] at HCN hc8 hcl hr
   have hbd:=(lev8_lev hc8).bd m (by omega)
   have HTU:Hid (∀ W v,Rd (RS RI) W [v] ct→Calls Try.prog 118 #[v,.int .i64 m] W (RetO (RS RI) W (turnF 8 ct m))):=Lib.hid (fun W v r => c_spec_l04Turn 8 v ct m W r hc8 (by omega) (by rw [getD_get (by omega)];omega))
   clear hct hcl hc8 h8 hin h hbd
   go_enter Try.func38,Try.ntmps38
   go_wp2_with (first|(go_at_call 110;refine hlv.mono ?_;rintro e w' ⟨rfl,nd,rfl⟩)|(go_at_call 97;refine (HIR.out _).mono ?_;rintro e w' ⟨rfl,rfl⟩))
   refine (HCN.out _).mono ?_
   rintro e w1 ⟨u,rfl,o1,b1⟩
   go_wp2_with fail
   refine (HTU.out _ _ o1.rd).mono ?_
   rintro e w2 ⟨u2,rfl,o2,b2⟩
   go_wp2_with fail
   go_ret2
   have b1':=Below.of_heap_eq b1 rfl rfl rfl rfl (w:=w)
   have s1:=b1'.size
   exact ⟨_,by rw [hr.out];rfl,by rw [hr.out];exact o2.mono s1 (Nat.le_refl _),b1'.trans (b2.mono s1)⟩
end Go.Proofs.Ytofpjonggpjneaa
namespace Go.Proofs.Ytofpjonggpjneaa
open Go.RowKit
theorem sub_flat2 {α:Type} {l1 l2:List (List α)} (h:l1.Sublist l2):l1.flatten.Sublist l2.flatten:=by
 induction h with
 | slnil => exact .slnil
 | cons a _ ih => rw [List.flatten_cons];exact ih.trans (List.sublist_append_right _ _)
 | cons_cons a _ ih => rw [List.flatten_cons,List.flatten_cons];exact List.Sublist.append (List.Sublist.refl _) ih
def eCtT (z:(List Int × List Nat) × Int):List D:=[.tag z.1.2 (.sl 1 (z.1.1.map eI)),.int z.2]
theorem tag_mk2:∀ (zs:List ((List Int × List Nat) × Int)),TagL ((zs.map fun z => (z.1.1,z.2)).map eCt) (zs.map eCtT) ((zs.map (·.1.2)).flatten)
 | [] => ⟨rfl,rfl⟩
 | z :: zs => ⟨_,_,z.1.2,_,rfl,rfl,⟨_,[.int z.2],z.1.2,[],rfl,(List.append_nil _).symm,.inl rfl,⟨.int z.2,[],[],[],rfl,rfl,.inr ⟨rfl,rfl,rfl⟩,rfl,rfl⟩⟩,tag_mk2 zs⟩
theorem a_forestOf' (f:List (List Int)) (hl:f.length ≤ 19) (hs:sumLen f ≤ 1000000000):AFn Try.prog 126 [eLL f] (· = [.own 1 ((forest f).map eL) true]) :=
 afn_LLL_oo (enters_of Try.func126 rfl rfl) (fun u w h => c_impl_forestOf u f w h hl (fun b hb => Nat.le_trans (sumLen_mem hb) hs))
noncomputable def TEq:Tab Try.prog:=Tab.none.add 104 (tab2 codL codL fun xs ys => some [.val (.bool (decide (xs = ys)))]) (tab2_ok fun xs ys rs h => by cases h;exact a_slicesEqual xs ys)
set_option maxHeartbeats 4000000 in
theorem a_counted (ts:List (List Int)) (hl:ts.length ≤ 19) (hs:sumLen ts ≤ 1000000):AFn Try.prog 114 [eLL ts] (· = [.own 2 ((cntOf ts).map eCt) true]):=by
 have hfo:=a_forestOf' ts hl (by omega)
 refine AFn.of_runs (cfg_ok 45) Try.func114 rfl rfl rfl (by simp only [List.length_cons,List.length_nil];decide) ?_
 have hres:Try.f114.results.toList = [.tmp 2]:=rfl
 have hrts:Try.f114.resultTypes.toList = [40]:=rfl
 simp only [argRegs,argAV1,eL,eI,eLL,eB,Nat.zero_add,Nat.reduceAdd]
 intro M
 refine RunK.of ?_
 repeat' (first|with_reducible (first|refine Q1 ?_|refine Q2 ?_|refine Q3 ?_|refine Q4 ?_|refine Q5 ?_|refine Q6 ?_|refine Q7 ?_|refine Q8 ?_|refine Q9 ?_|refine Qa ?_|refine Qb ?_|refine Qc ?_|refine Qd ?_|refine Qe ?_|refine Qf ?_)|((with_reducible refine Qo ?_ ?_);focus rfl)|((with_reducible first|refine QT 12 (l:=?_) ?_ ?_|refine QF 12 (l:=?_) ?_ ?_);rotate_left 1;focus (simp only [Zu,Nat.reduceSub,Nat.reduceBEq];with_reducible rfl))|((with_reducible first|refine QS (cfg_ok 45) Tab.none (s':=?_) ?_ ?_|refine QC (b:=?_) ?_ ?_);rotate_left 1;focus ((with_reducible refine QW ?_);simp only [Zg,seval,if_true,if_false,reduceCtorEq,Nat.reduceEqDiff];with_reducible rfl)))
 refine RunK.regTag (cfg_ok 45) (Tab.none.at' 126 hfo) 2 9 (k:=1) (xs:=(forest ts).map eL) (s1:=?_) ?_ ?_ ?_
 rotate_left 1
 focus (simp only [Zg,seval,if_true,if_false,reduceCtorEq,Nat.reduceEqDiff,eL,eLL];with_reducible rfl)
 focus rfl
 intro xs' F ht hnd hF
 obtain ⟨ps,e1,e2,e3⟩:=tag_rows ht
 subst e2
 have hpl:ps.length = ts.length:=by
  have:=congrArg List.length e1
  rw [List.length_map] at this
  rw [← this]
  exact (show (sortC cmpT ts).Perm ts from sortC_perm ts).length_eq
 refine ROps.opsT (cfg_ok 45) (T:=Tab.none) (s':=?_) ?_ ?_
 rotate_left 1
 focus (simp only [Zg,seval,if_true,if_false,reduceCtorEq,Nat.reduceEqDiff,List.length_map];with_reducible rfl)
 repeat' (first|with_reducible (first|refine Q1 ?_|refine Q2 ?_|refine Q3 ?_|refine Q4 ?_|refine Q5 ?_|refine Q6 ?_|refine Q7 ?_|refine Q8 ?_|refine Q9 ?_|refine Qa ?_|refine Qb ?_|refine Qc ?_|refine Qd ?_|refine Qe ?_|refine Qf ?_)|((with_reducible refine Qo ?_ ?_);focus rfl)|((with_reducible first|refine QT 12 (l:=?_) ?_ ?_|refine QF 12 (l:=?_) ?_ ?_);rotate_left 1;focus (simp only [Zu,Nat.reduceSub,Nat.reduceBEq];with_reducible rfl))|((with_reducible first|refine QS (cfg_ok 45) Tab.none (s':=?_) ?_ ?_|refine QC (b:=?_) ?_ ?_);rotate_left 1;focus ((with_reducible refine QW ?_);simp only [Zg,seval,if_true,if_false,reduceCtorEq,Nat.reduceEqDiff];with_reducible rfl)))
 obtain ⟨R,hR⟩:∃ R,R = fun i => runsF (fun p:List Int × List Nat => p.1) (ps.take i):=⟨_,rfl⟩
 have hRb:∀ i,i ≤ ps.length→(R i).length ≤ 19∧∀ z ∈ R i,1 ≤ z.2∧z.2 ≤ 19:=fun i hi => by
  rw [hR]
  obtain ⟨h1,h2⟩:=runsF_sub (fun p:List Int × List Nat => p.1) _ (ps.take i) rfl
  have h3:=h1.length_le
  rw [List.length_map,List.length_take] at h3
  rw [List.length_take] at h2
  exact ⟨by show (runsF _ _).length ≤ 19;omega,fun z hz => by have:=h2 z hz;omega⟩
 refine RunK.loop (β:=Nat) (γ:=Unit) (fun i => ⟨[(3,.c (.own 3 (R i).length)),(9,.c (.own 9 ps.length)),(10,.c (.val (.int ps.length))),(11,.c (.val (.int i)))],[(3,.row 2 ((R i).map eCtT) false),(9,.row 1 (ps.map eLT) false)]⟩) (fun i => i ≤ ps.length) (fun i => ps.length - i)
  (fun _ => ⟨[(3,.c (.own 3 (R ps.length).length))],[(3,.row 2 ((R ps.length).map eCtT) false)]⟩) (fun _ => True) 0 (Nat.zero_le _) ?_ ?_ ?_
 ·have e0:R 0 = []:=by rw [hR];rfl
  have hfl:(forest ts).length = ps.length:=by rw [hpl];exact (show (sortC cmpT ts).Perm ts from sortC_perm ts).length_eq
  rw [e0,hfl]
  (repeat' (first|with_reducible refine Qn|((with_reducible refine Qr ?_ ?_);focus (first|with_reducible rfl|(simp only [Zz,Nat.reduceBEq,List.map_nil,List.length_map,Int.natCast_zero];done)|rfl))|((with_reducible refine Qj (o':=?_) ?_ ?_ ?_);rotate_left 1;focus rfl)|((with_reducible refine Qw ?_ ?_);(focus (first|with_reducible rfl|(simp only [Zv,List.map_nil,List.length_map,Int.natCast_zero];done)));focus (first|exact id|exact (fun h => nomatch h)|exact (fun _ => rfl)))))
 ·intro i hi
  have hi:i ≤ ps.length:=hi
  have hw:=w64_succ (n:=i) (by omega)
  obtain ⟨hb1,hb2⟩:=hRb i hi
  by_cases h:i < ps.length
  ·have i1:((i:Int) < (ps.length:Int)) = True:=eq_true (by omega)
   have i2:((0:Int) ≤ (i:Int)) = True:=eq_true (by omega)
   obtain ⟨p,hp⟩:∃ p,p = ps[i]:=⟨_,rfl⟩
   have hg:(ps.map eLT)[i]? = some [.tag p.2 (.sl 1 (p.1.map eI))]:=by rw [map_get h,hp];rfl
   have hst:R (i + 1) = stepC (fun p:List Int × List Nat => p.1) (R i) p:=by
    rw [hR]
    show runsF _ (ps.take (i + 1)) = stepC _ (runsF _ (ps.take i)) p
    rw [List.take_succ_eq_append_getElem h,runsF_snoc,hp]
   have q1:=big_le (n:=(R i).length + 1) (by omega)
   have q2:=big_mul (n:=(R i).length + 1) (c:=32) (by omega) (by omega)
   by_cases h0:R i = []
   ·rw [h0,stepC_nil] at hst
    have j1:(((0:Nat):Int) > 0) = False:=eq_false (by omega)
    rw [h0] at q1 q2 ⊢
    simp only [List.length_nil] at q1 q2
    repeat' (first|with_reducible (first|refine Q1 ?_|refine Q2 ?_|refine Q3 ?_|refine Q4 ?_|refine Q5 ?_|refine Q6 ?_|refine Q7 ?_|refine Q8 ?_|refine Q9 ?_|refine Qa ?_|refine Qb ?_|refine Qc ?_|refine Qd ?_|refine Qe ?_|refine Qf ?_)|((with_reducible refine Qo ?_ ?_);focus rfl)|((with_reducible first|refine QT 12 (l:=?_) ?_ ?_|refine QF 12 (l:=?_) ?_ ?_);rotate_left 1;focus (simp only [Zu,Nat.reduceSub,Nat.reduceBEq];with_reducible rfl))|((with_reducible first|refine QS (cfg_ok 45) TEq (s':=?_) ?_ ?_|refine QC (b:=?_) ?_ ?_);rotate_left 1;focus ((with_reducible refine QW ?_);simp only [Zg,seval,if_true,if_false,reduceCtorEq,Nat.reduceEqDiff,TEq,i1,i2,hg,hw,j1,q1,q2,Int.toNat_natCast,List.length_map,List.length_nil];with_reducible rfl)))
    refine roundK.on (i + 1) ⟨h,by omega⟩ ?_
    rw [hst]
    (repeat' (first|with_reducible refine Qn|((with_reducible refine Qr ?_ ?_);focus (first|with_reducible rfl|(simp only [Zz,Nat.reduceBEq,eCtT,List.map_nil];done)|rfl))|((with_reducible refine Qj (o':=?_) ?_ ?_ ?_);rotate_left 1;focus rfl)|((with_reducible refine Qw ?_ ?_);(focus (first|with_reducible rfl|(simp only [Zv,eCtT,List.map_nil];done)));focus (first|exact id|exact (fun h => nomatch h)|exact (fun _ => rfl)))))
   ·obtain ⟨out,z,ez⟩:=snoc_of h0
    have hzb:=hb2 z (by rw [ez];simp)
    rw [ez] at hst hb1 q1 q2 ⊢
    simp only [List.length_append,List.length_singleton] at hb1 q1 q2
    have hlz:(out ++ [z]).length = out.length + 1:=by simp
    have j1:((((out.length + 1:Nat)):Int) > 0) = True:=eq_true (by omega)
    have hw1:w64 (((out.length + 1:Nat):Int) - 1) = ((out.length:Nat):Int):=by rw [w64_eq (by omega)];omega
    have i3:((0:Int) ≤ ((out.length:Nat):Int)) = True:=eq_true (by omega)
    have i4:(((out.length:Nat):Int) < ((out.length + 1:Nat):Int)) = True:=eq_true (by omega)
    have hgz:((out ++ [z]).map eCtT)[out.length]? = some [.tag z.1.2 (.sl 1 (z.1.1.map eI)),.int z.2]:=by
     rw [List.map_append,List.getElem?_append_right (by simp)];simp [eCtT]
    by_cases he:z.1.1 = p.1
    ·rw [stepC_eq _ out z p he] at hst
     have hd:decide (z.1.1 = p.1) = true:=decide_eq_true he
     have hwz:=w64_eq (n:=z.2 + 1) (by omega)
     repeat' (first|with_reducible (first|refine Q1 ?_|refine Q2 ?_|refine Q3 ?_|refine Q4 ?_|refine Q5 ?_|refine Q6 ?_|refine Q7 ?_|refine Q8 ?_|refine Q9 ?_|refine Qa ?_|refine Qb ?_|refine Qc ?_|refine Qd ?_|refine Qe ?_|refine Qf ?_)|((with_reducible refine Qo ?_ ?_);focus rfl)|((with_reducible first|refine QT 12 (l:=?_) ?_ ?_|refine QF 12 (l:=?_) ?_ ?_);rotate_left 1;focus (simp only [Zu,Nat.reduceSub,Nat.reduceBEq];with_reducible rfl))|((with_reducible first|refine QS (cfg_ok 45) TEq (s':=?_) ?_ ?_|refine QC (b:=?_) ?_ ?_);rotate_left 1;focus ((with_reducible refine QW ?_);simp only [Zg,seval,if_true,if_false,reduceCtorEq,Nat.reduceEqDiff,TEq,TEq,i1,i2,i3,i4,hg,hgz,hlz,hw,hw1,hwz,hd,j1,Int.toNat_natCast,List.length_map];with_reducible rfl)))
     have hse:((out ++ [z]).map eCtT).set out.length [.tag z.1.2 (.sl 1 (z.1.1.map eI)),.int (z.2 + 1)] = (out ++ [(z.1,z.2 + 1)]).map eCtT:=by
      rw [List.map_append,List.set_append_right _ _ (by simp)];simp [eCtT]
     refine roundK.on (i + 1) ⟨h,by omega⟩ ?_
     rw [hst,hse]
     (repeat' (first|with_reducible refine Qn|((with_reducible refine Qr ?_ ?_);focus (first|with_reducible rfl|(simp only [Zz,Nat.reduceBEq,eCtT];done)|rfl))|((with_reducible refine Qj (o':=?_) ?_ ?_ ?_);rotate_left 1;focus rfl)|((with_reducible refine Qw ?_ ?_);(focus (first|with_reducible rfl|(simp only [Zv,eCtT];done)));focus (first|exact id|exact (fun h => nomatch h)|exact (fun _ => rfl)))))
    ·rw [stepC_ne _ out z p he] at hst
     have hd:decide (z.1.1 = p.1) = false:=decide_eq_false he
     repeat' (first|with_reducible (first|refine Q1 ?_|refine Q2 ?_|refine Q3 ?_|refine Q4 ?_|refine Q5 ?_|refine Q6 ?_|refine Q7 ?_|refine Q8 ?_|refine Q9 ?_|refine Qa ?_|refine Qb ?_|refine Qc ?_|refine Qd ?_|refine Qe ?_|refine Qf ?_)|((with_reducible refine Qo ?_ ?_);focus rfl)|((with_reducible first|refine QT 12 (l:=?_) ?_ ?_|refine QF 12 (l:=?_) ?_ ?_);rotate_left 1;focus (simp only [Zu,Nat.reduceSub,Nat.reduceBEq];with_reducible rfl))|((with_reducible first|refine QS (cfg_ok 45) TEq (s':=?_) ?_ ?_|refine QC (b:=?_) ?_ ?_);rotate_left 1;focus ((with_reducible refine QW ?_);simp only [Zg,seval,if_true,if_false,reduceCtorEq,Nat.reduceEqDiff,TEq,TEq,i1,i2,i3,i4,hg,hgz,hlz,hw,hw1,hd,j1,q1,q2,Int.toNat_natCast,List.length_map];with_reducible rfl)))
     refine roundK.on (i + 1) ⟨h,by omega⟩ ?_
     rw [hst]
     (repeat' (first|with_reducible refine Qn|((with_reducible refine Qr ?_ ?_);focus (first|with_reducible rfl|(simp only [Zz,Nat.reduceBEq,eCtT];done)|rfl))|((with_reducible refine Qj (o':=?_) ?_ ?_ ?_);rotate_left 1;focus rfl)|((with_reducible refine Qw ?_ ?_);(focus (first|with_reducible rfl|(simp only [Zv,eCtT];done)));focus (first|exact id|exact (fun h => nomatch h)|exact (fun _ => rfl)))))
  ·have i1:((i:Int) < (ps.length:Int)) = False:=eq_false (by omega)
   obtain rfl:i = ps.length:=by omega
   repeat' (first|with_reducible (first|refine Q1 ?_|refine Q2 ?_|refine Q3 ?_|refine Q4 ?_|refine Q5 ?_|refine Q6 ?_|refine Q7 ?_|refine Q8 ?_|refine Q9 ?_|refine Qa ?_|refine Qb ?_|refine Qc ?_|refine Qd ?_|refine Qe ?_|refine Qf ?_)|((with_reducible refine Qo ?_ ?_);focus rfl)|((with_reducible first|refine QT 12 (l:=?_) ?_ ?_|refine QF 12 (l:=?_) ?_ ?_);rotate_left 1;focus (simp only [Zu,Nat.reduceSub,Nat.reduceBEq];with_reducible rfl))|((with_reducible first|refine QS (cfg_ok 45) Tab.none (s':=?_) ?_ ?_|refine QC (b:=?_) ?_ ?_);rotate_left 1;focus ((with_reducible refine QW ?_);simp only [Zg,seval,if_true,if_false,reduceCtorEq,Nat.reduceEqDiff,i1];with_reducible rfl)))
   refine roundK.out () trivial ?_
   (repeat' (first|with_reducible refine Qn|((with_reducible refine Qr ?_ ?_);focus (first|with_reducible rfl|(simp only [Zz,Nat.reduceBEq];done)|rfl))|((with_reducible refine Qj (o':=?_) ?_ ?_ ?_);rotate_left 1;focus rfl)|((with_reducible refine Qw ?_ ?_);(focus (first|with_reducible rfl|(simp only [Zv];done)));focus (first|exact id|exact (fun h => nomatch h)|exact (fun _ => rfl)))))
 ·rintro _ _
  repeat' (first|with_reducible (first|refine Q1 ?_|refine Q2 ?_|refine Q3 ?_|refine Q4 ?_|refine Q5 ?_|refine Q6 ?_|refine Q7 ?_|refine Q8 ?_|refine Q9 ?_|refine Qa ?_|refine Qb ?_|refine Qc ?_|refine Qd ?_|refine Qe ?_|refine Qf ?_)|((with_reducible refine Qo ?_ ?_);focus rfl)|((with_reducible first|refine QT 12 (l:=?_) ?_ ?_|refine QF 12 (l:=?_) ?_ ?_);rotate_left 1;focus (simp only [Zu,Nat.reduceSub,Nat.reduceBEq];with_reducible rfl))|((with_reducible first|refine QS (cfg_ok 45) Tab.none (s':=?_) ?_ ?_|refine QC (b:=?_) ?_ ?_);rotate_left 1;focus ((with_reducible refine QW ?_);simp only [Zg,seval,if_true,if_false,reduceCtorEq,Nat.reduceEqDiff];with_reducible rfl)))
  have hRe:(R ps.length).map (fun z => (z.1.1,z.2)) = cntOf ts:=by
   rw [hR]
   show (runsF _ (ps.take ps.length)).map _ = _
   rw [List.take_length,runsF_map _ _ ps rfl,← e1];rfl
  refine Ends.un (by simp) hres hrts (r:=?_) (r':=.own 2 ((cntOf ts).map eCt) true) (l:=[]) (ks:=?_) ?_ ?_ (by simp) ?_ rfl
  rotate_left 2
  focus (simp only [aresults,ares,Zg,seval,if_true,if_false,reduceCtorEq,Nat.reduceEqDiff];with_reducible rfl)
  focus simp
  rw [← hRe]
  have hsub:((R ps.length).map (·.1)).Sublist ps:=by
   have:=(runsF_sub (fun p:List Int × List Nat => p.1) _ (ps.take ps.length) rfl).1
   rw [hR]
   show (List.map _ (runsF (fun p:List Int × List Nat => p.1) (ps.take ps.length))).Sublist ps
   rw [List.take_length] at this ⊢
   exact this
  have hsub2:((R ps.length).map (·.1.2)).Sublist (ps.map (·.2)):=by
   have:=hsub.map (·.2)
   rwa [List.map_map] at this
  refine ⟨((R ps.length).map (·.1.2)).flatten,?_,fun b hb => hF b ?_,.inl ⟨2,_,_,rfl,rfl,tag_mk2 _⟩⟩
  ·rw [e3] at hnd
   exact hnd.sublist (sub_flat2 hsub2)
  ·rw [e3]
   exact (sub_flat2 hsub2).subset hb
end Go.Proofs.Ytofpjonggpjneaa
namespace Go.Proofs.Ytofpjonggpjneaa
open Go.RowKit
theorem sumLen_le {m:Nat}:∀ (f:List (List Int)),(∀ b ∈ f,b.length ≤ m)→sumLen f ≤ m * f.length
 | [],_ => by simp [sumLen]
 | b :: f,h => by
  have h1:=h b (by simp)
  have ih:=sumLen_le f (fun c hc => h c (by simp [hc]))
  simp only [sumLen,List.map_cons,List.sum_cons,List.length_cons] at ih ⊢
  rw [Nat.mul_succ];omega
theorem roots_size {t:List Int} (h:lev8 t = true):∀ b ∈ roots t,b.length ≤ 8:=fun b hb => by
 unfold roots at hb
 obtain ⟨n,hn,rfl⟩:=List.mem_map.1 hb
 have:=(turnF_lev 8 t n h (List.mem_range.1 hn)).2
 have:=lev8_len h
 omega
def rtsOf (t:List Int):List (List Int × Int) × Int:=if lev8 t = true then (sumOf (roots t),0) else ([],1)
theorem a_impl_RootsOf (t:List Int):AFn Try.prog 39 [eL t] (· = [.own 2 ((rtsOf t).1.map eCt) true,.val (.int (rtsOf t).2)]):=by
 have h1:=a_impl_IsLevels t
 unfold rtsOf
 refine AFn.of_runs (cfg_ok 10) Try.func39 rfl rfl rfl (by simp only [List.length_cons,List.length_nil];decide) ?_
 have hres:Try.f39.results.toList = [.tmp 2,.tmp 3]:=rfl
 have hrts:Try.f39.resultTypes.toList = [40,2]:=rfl
 simp only [argRegs,argAV1,eL,eI,eLL,eB,Nat.zero_add,Nat.reduceAdd]
 intro M
 refine RunK.of ?_
 by_cases h8:lev8 t = true
 ·rw [h8] at h1
  rw [if_pos h8]
  have hro:AFn Try.prog 117 [eL t] (· = [.own 1 ((roots (canon t)).map eL) true]):=afn_L_oo (enters_of Try.func117 rfl rfl) (fun u w h => c_impl_rooted u t w h h8)
  have hc8:lev8 (canon t) = true:=lev8_canon h8
  have hcl:=lev8_len hc8
  have hsl:=sumLen_le (roots (canon t)) (roots_size hc8)
  rw [roots_len] at hsl
  have hct:=a_counted (roots (canon t)) (by rw [roots_len];omega) (by omega)
  rw [rts_eq h8] at hct
  simp only [eL,eLL] at h1 hro hct
  repeat' (first|with_reducible (first|refine Q1 ?_|refine Q2 ?_|refine Q3 ?_|refine Q4 ?_|refine Q5 ?_|refine Q6 ?_|refine Q7 ?_|refine Q8 ?_|refine Q9 ?_|refine Qa ?_|refine Qb ?_|refine Qc ?_|refine Qd ?_|refine Qe ?_|refine Qf ?_)|((with_reducible refine Qo ?_ ?_);focus rfl)|((with_reducible first|refine QT 4 (l:=?_) ?_ ?_|refine QF 4 (l:=?_) ?_ ?_);rotate_left 1;focus (simp only [Zu,Nat.reduceSub,Nat.reduceBEq];with_reducible rfl))|((with_reducible first|refine QS (cfg_ok 10) (((Tab.none.at' 49 h1).at' 117 hro).at' 114 hct) (s':=?_) ?_ ?_|refine QC (b:=?_) ?_ ?_);rotate_left 1;focus ((with_reducible refine QW ?_);simp only [Zg,seval,if_true,if_false,reduceCtorEq,Nat.reduceEqDiff,eL];with_reducible rfl)))
  (refine Ends.mk (by simp) (rs:=?_) (ks:=?_) hres hrts ?_ ?_ ?_;rotate_left 2;(focus (simp only [Ze,Zg,seval,if_true,if_false,reduceCtorEq,Nat.reduceEqDiff];with_reducible rfl));(focus simp);focus (first|with_reducible rfl|(simp only [Zv];done)))
 ·rw [if_neg h8]
  have h8:lev8 t = false:=by simpa using h8
  rw [h8] at h1
  simp only [eL] at h1
  repeat' (first|with_reducible (first|refine Q1 ?_|refine Q2 ?_|refine Q3 ?_|refine Q4 ?_|refine Q5 ?_|refine Q6 ?_|refine Q7 ?_|refine Q8 ?_|refine Q9 ?_|refine Qa ?_|refine Qb ?_|refine Qc ?_|refine Qd ?_|refine Qe ?_|refine Qf ?_)|((with_reducible refine Qo ?_ ?_);focus rfl)|((with_reducible first|refine QT 4 (l:=?_) ?_ ?_|refine QF 4 (l:=?_) ?_ ?_);rotate_left 1;focus (simp only [Zu,Nat.reduceSub,Nat.reduceBEq];with_reducible rfl))|((with_reducible first|refine QS (cfg_ok 10) (Tab.none.at' 49 h1) (s':=?_) ?_ ?_|refine QC (b:=?_) ?_ ?_);rotate_left 1;focus ((with_reducible refine QW ?_);simp only [Zg,seval,if_true,if_false,reduceCtorEq,Nat.reduceEqDiff];with_reducible rfl)))
  (refine Ends.mk (by simp) (rs:=?_) (ks:=?_) hres hrts ?_ ?_ ?_;rotate_left 2;(focus (simp only [Ze,Zg,seval,if_true,if_false,reduceCtorEq,Nat.reduceEqDiff];with_reducible rfl));(focus simp);focus (first|with_reducible rfl|(simp only [Zv];done)))
end Go.Proofs.Ytofpjonggpjneaa
namespace Go.Proofs.Ytofpjonggpjneaa
open Go.RowKit
end Go.Proofs.Ytofpjonggpjneaa
namespace Go.Proofs.Ytofpjonggpjneaa
open Go.RowKit
def minE {α:Type} (f:α→List Int) (p:α) (qs:List α):α:=qs.foldl (fun m x => if cmpT (f x) (f m) < 0 then x else m) p
theorem minE_snoc {α:Type} (f:α→List Int) (p:α) (qs:List α) (x:α):minE f p (qs ++ [x]) = if cmpT (f x) (f (minE f p qs)) < 0 then x else minE f p qs:=by
 unfold minE;rw [List.foldl_append];rfl
theorem minE_f {α:Type} (f:α→List Int):∀ (qs:List α) (p:α),f (minE f p qs) = minT ((p :: qs).map f)
 | [],p => rfl
 | q :: qs,p => by
  have:=minE_f f qs (if cmpT (f q) (f p) < 0 then q else p)
  show f (minE f (if cmpT (f q) (f p) < 0 then q else p) qs) = _
  rw [this]
  simp only [List.map_cons,minT,List.foldl_cons]
  congr 1
  split <;> rfl
theorem minE_mem {α:Type} (f:α→List Int):∀ (qs:List α) (p:α),minE f p qs ∈ p :: qs
 | [],p => by simp [minE]
 | q :: qs,p => by
  have:=minE_mem f qs (if cmpT (f q) (f p) < 0 then q else p)
  show minE f (if cmpT (f q) (f p) < 0 then q else p) qs ∈ _
  rcases List.mem_cons.1 this with h|h
  ·rw [h];split <;> simp
  ·simp [h]
noncomputable def TCmp:Tab Try.prog:=Tab.none.add 107 (tab2 codL codL fun xs ys => some [.val (.int (cmpT xs ys))]) (tab2_ok fun xs ys rs h => by cases h;exact a_compareTrees xs ys)
set_option maxHeartbeats 2000000 in
theorem a_MinFunc {α:Type} (e:α→List D) (d:α→D) (f:α→List Int) (he:∀ p,e p = [d p]) (hun:∀ p,(d p).un = .sl 1 ((f p).map eI)) (p:α) (qs:List α) (hl:qs.length ≤ 1000000000) :
  AFn Try.prog 170 [[.sl 1 ((p :: qs).map e)],[.raw (.func (.func 107) #[] #[])]] (· = [.val (d (minE f p qs))]):=by
 refine AFn.of_runs (cfg_ok 33) Try.func170 rfl rfl rfl (by simp only [List.length_cons,List.length_nil];decide) ?_
 have hres:Try.f170.results.toList = [.tmp 4]:=rfl
 have hrts:Try.f170.resultTypes.toList = [24]:=rfl
 simp only [argRegs,argAV1,eL,eI,eLL,eB,Nat.zero_add,Nat.reduceAdd]
 intro M
 refine RunK.of ?_
 have hle:((p :: qs).map e).length = qs.length + 1:=by simp
 have h0:((p :: qs).map e)[0]? = some [d p]:=by simp [he]
 have hlt:((((qs.length + 1:Nat):Int)) < 1) = False:=by simp;omega
 obtain ⟨L,hL⟩:∃ L,L = (p :: qs).map e:=⟨_,rfl⟩
 rw [← hL] at hle h0 ⊢
 have i0:(0:Int) < ((qs.length + 1:Nat):Int):=by omega
 repeat' (first|with_reducible (first|refine Q1 ?_|refine Q2 ?_|refine Q3 ?_|refine Q4 ?_|refine Q5 ?_|refine Q6 ?_|refine Q7 ?_|refine Q8 ?_|refine Q9 ?_|refine Qa ?_|refine Qb ?_|refine Qc ?_|refine Qd ?_|refine Qe ?_|refine Qf ?_)|((with_reducible refine Qo ?_ ?_);focus rfl)|((with_reducible first|refine QT 7 (l:=?_) ?_ ?_|refine QF 7 (l:=?_) ?_ ?_);rotate_left 1;focus (simp only [Zu,Nat.reduceSub,Nat.reduceBEq];with_reducible rfl))|((with_reducible first|refine QS (cfg_ok 33) TCmp (s':=?_) ?_ ?_|refine QC (b:=?_) ?_ ?_);rotate_left 1;focus ((with_reducible refine QW ?_);simp only [Zg,seval,if_true,if_false,reduceCtorEq,Nat.reduceEqDiff,TCmp,hle,h0,hlt,i0];with_reducible rfl)))
 refine RunK.loop (β:=Nat) (γ:=Unit) (fun j => ⟨[(0,.c (.val (.sl 1 L))),(1,.c (.val (.raw (.func (.func 107) #[] #[])))),(5,.c (.val (d (minE f p (qs.take j))))),(6,.c (.val (.int ((j + 1:Nat):Int))))],[]⟩) (fun j => j ≤ qs.length) (fun j => qs.length - j)
  (fun _ => ⟨[(5,.c (.val (d (minE f p qs))))],[]⟩) (fun _ => True) 0 (Nat.zero_le _) ?_ ?_ ?_
 ·(repeat' (first|with_reducible refine Qn|((with_reducible refine Qr ?_ ?_);focus (first|with_reducible rfl|(simp only [Zz,Nat.reduceBEq];done)|rfl))|((with_reducible refine Qj (o':=?_) ?_ ?_ ?_);rotate_left 1;focus rfl)|((with_reducible refine Qw ?_ ?_);(focus (first|with_reducible rfl|(simp only [Zv];done)));focus (first|exact id|exact (fun h => nomatch h)|exact (fun _ => rfl)))))
 ·rintro j hj
  have hw:=w64_succ (n:=j + 1) (by omega)
  by_cases h:j < qs.length
  ·have i1:(((j + 1:Nat):Int) < ((qs.length + 1:Nat):Int)) = True:=eq_true (by omega)
   have i2:((0:Int) ≤ ((j + 1:Nat):Int)) = True:=eq_true (by omega)
   have i3:((j + 1:Nat):Int).toNat = j + 1:=by omega
   have hj1:L[j + 1]? = some [d qs[j]]:=by rw [hL];simp [he,h]
   have hs:qs.take (j + 1) = qs.take j ++ [qs[j]]:=List.take_succ_eq_append_getElem h
   by_cases hc:cmpT (f qs[j]) (f (minE f p (qs.take j))) < 0
   ·repeat' (first|with_reducible (first|refine Q1 ?_|refine Q2 ?_|refine Q3 ?_|refine Q4 ?_|refine Q5 ?_|refine Q6 ?_|refine Q7 ?_|refine Q8 ?_|refine Q9 ?_|refine Qa ?_|refine Qb ?_|refine Qc ?_|refine Qd ?_|refine Qe ?_|refine Qf ?_)|((with_reducible refine Qo ?_ ?_);focus rfl)|((with_reducible first|refine QT 7 (l:=?_) ?_ ?_|refine QF 7 (l:=?_) ?_ ?_);rotate_left 1;focus (simp only [Zu,Nat.reduceSub,Nat.reduceBEq];with_reducible rfl))|((with_reducible first|refine QS (cfg_ok 33) TCmp (s':=?_) ?_ ?_|refine QC (b:=?_) ?_ ?_);rotate_left 1;focus ((with_reducible refine QW ?_);simp only [Zg,seval,if_true,if_false,reduceCtorEq,Nat.reduceEqDiff,TCmp,hle,i1,i2,i3,hj1,hun,argV_un (hun _),hc,hw];with_reducible rfl)))
    refine roundK.on (j + 1) ⟨h,by omega⟩ ?_
    rw [hs,minE_snoc,if_pos hc]
    (repeat' (first|with_reducible refine Qn|((with_reducible refine Qr ?_ ?_);focus (first|with_reducible rfl|(simp only [Zz,Nat.reduceBEq];done)|rfl))|((with_reducible refine Qj (o':=?_) ?_ ?_ ?_);rotate_left 1;focus rfl)|((with_reducible refine Qw ?_ ?_);(focus (first|with_reducible rfl|(simp only [Zv];done)));focus (first|exact id|exact (fun h => nomatch h)|exact (fun _ => rfl)))))
   ·repeat' (first|with_reducible (first|refine Q1 ?_|refine Q2 ?_|refine Q3 ?_|refine Q4 ?_|refine Q5 ?_|refine Q6 ?_|refine Q7 ?_|refine Q8 ?_|refine Q9 ?_|refine Qa ?_|refine Qb ?_|refine Qc ?_|refine Qd ?_|refine Qe ?_|refine Qf ?_)|((with_reducible refine Qo ?_ ?_);focus rfl)|((with_reducible first|refine QT 7 (l:=?_) ?_ ?_|refine QF 7 (l:=?_) ?_ ?_);rotate_left 1;focus (simp only [Zu,Nat.reduceSub,Nat.reduceBEq];with_reducible rfl))|((with_reducible first|refine QS (cfg_ok 33) TCmp (s':=?_) ?_ ?_|refine QC (b:=?_) ?_ ?_);rotate_left 1;focus ((with_reducible refine QW ?_);simp only [Zg,seval,if_true,if_false,reduceCtorEq,Nat.reduceEqDiff,TCmp,hle,i1,i2,i3,hj1,hun,argV_un (hun _),hc,hw];with_reducible rfl)))
    refine roundK.on (j + 1) ⟨h,by omega⟩ ?_
    rw [hs,minE_snoc,if_neg hc]
    (repeat' (first|with_reducible refine Qn|((with_reducible refine Qr ?_ ?_);focus (first|with_reducible rfl|(simp only [Zz,Nat.reduceBEq];done)|rfl))|((with_reducible refine Qj (o':=?_) ?_ ?_ ?_);rotate_left 1;focus rfl)|((with_reducible refine Qw ?_ ?_);(focus (first|with_reducible rfl|(simp only [Zv];done)));focus (first|exact id|exact (fun h => nomatch h)|exact (fun _ => rfl)))))
  ·have i1:(((j + 1:Nat):Int) < ((qs.length + 1:Nat):Int)) = False:=eq_false (by omega)
   have hj2:qs.take j = qs:=List.take_of_length_le (by omega)
   rw [hj2]
   repeat' (first|with_reducible (first|refine Q1 ?_|refine Q2 ?_|refine Q3 ?_|refine Q4 ?_|refine Q5 ?_|refine Q6 ?_|refine Q7 ?_|refine Q8 ?_|refine Q9 ?_|refine Qa ?_|refine Qb ?_|refine Qc ?_|refine Qd ?_|refine Qe ?_|refine Qf ?_)|((with_reducible refine Qo ?_ ?_);focus rfl)|((with_reducible first|refine QT 7 (l:=?_) ?_ ?_|refine QF 7 (l:=?_) ?_ ?_);rotate_left 1;focus (simp only [Zu,Nat.reduceSub,Nat.reduceBEq];with_reducible rfl))|((with_reducible first|refine QS (cfg_ok 33) TCmp (s':=?_) ?_ ?_|refine QC (b:=?_) ?_ ?_);rotate_left 1;focus ((with_reducible refine QW ?_);simp only [Zg,seval,if_true,if_false,reduceCtorEq,Nat.reduceEqDiff,TCmp,hle,i1,hw];with_reducible rfl)))
   refine roundK.out () trivial ?_
   (repeat' (first|with_reducible refine Qn|((with_reducible refine Qr ?_ ?_);focus (first|with_reducible rfl|(simp only [Zz,Nat.reduceBEq];done)|rfl))|((with_reducible refine Qj (o':=?_) ?_ ?_ ?_);rotate_left 1;focus rfl)|((with_reducible refine Qw ?_ ?_);(focus (first|with_reducible rfl|(simp only [Zv];done)));focus (first|exact id|exact (fun h => nomatch h)|exact (fun _ => rfl)))))
 ·rintro _ _
  repeat' (first|with_reducible (first|refine Q1 ?_|refine Q2 ?_|refine Q3 ?_|refine Q4 ?_|refine Q5 ?_|refine Q6 ?_|refine Q7 ?_|refine Q8 ?_|refine Q9 ?_|refine Qa ?_|refine Qb ?_|refine Qc ?_|refine Qd ?_|refine Qe ?_|refine Qf ?_)|((with_reducible refine Qo ?_ ?_);focus rfl)|((with_reducible first|refine QT 7 (l:=?_) ?_ ?_|refine QF 7 (l:=?_) ?_ ?_);rotate_left 1;focus (simp only [Zu,Nat.reduceSub,Nat.reduceBEq];with_reducible rfl))|((with_reducible first|refine QS (cfg_ok 33) TCmp (s':=?_) ?_ ?_|refine QC (b:=?_) ?_ ?_);rotate_left 1;focus ((with_reducible refine QW ?_);simp only [Zg,seval,if_true,if_false,reduceCtorEq,Nat.reduceEqDiff,TCmp];with_reducible rfl)))
  (refine Ends.mk (by simp) (rs:=?_) (ks:=?_) hres hrts ?_ ?_ ?_;rotate_left 2;(focus (simp only [Ze,Zg,seval,if_true,if_false,reduceCtorEq,Nat.reduceEqDiff];with_reducible rfl));(focus simp);focus (first|with_reducible rfl|(simp only [Zv];done)))
theorem a_freeForm (t:List Int) (h8:lev8 t = true):AFn Try.prog 119 [eL t] (· = [.own 1 ((freeT (canon t)).map eI) true]):=by
 have hro:AFn Try.prog 117 [eL t] (· = [.own 1 ((roots (canon t)).map eL) true]):=afn_L_oo (enters_of Try.func117 rfl rfl) (fun u w h => c_impl_rooted u t w h h8)
 refine AFn.of_runs (cfg_ok 6) Try.func119 rfl rfl rfl (by simp only [List.length_cons,List.length_nil];decide) ?_
 have hres:Try.f119.results.toList = [.tmp 2]:=rfl
 have hrts:Try.f119.resultTypes.toList = [24]:=rfl
 simp only [argRegs,argAV1,eL,eI,eLL,eB,Nat.zero_add,Nat.reduceAdd]
 intro M
 refine RunK.of ?_
 repeat' (first|with_reducible (first|refine Q1 ?_|refine Q2 ?_|refine Q3 ?_|refine Q4 ?_|refine Q5 ?_|refine Q6 ?_|refine Q7 ?_|refine Q8 ?_|refine Q9 ?_|refine Qa ?_|refine Qb ?_|refine Qc ?_|refine Qd ?_|refine Qe ?_|refine Qf ?_)|((with_reducible refine Qo ?_ ?_);focus rfl)|((with_reducible first|refine QT 3 (l:=?_) ?_ ?_|refine QF 3 (l:=?_) ?_ ?_);rotate_left 1;focus (simp only [Zu,Nat.reduceSub,Nat.reduceBEq];with_reducible rfl))|((with_reducible first|refine QS (cfg_ok 6) Tab.none (s':=?_) ?_ ?_|refine QC (b:=?_) ?_ ?_);rotate_left 1;focus ((with_reducible refine QW ?_);simp only [Zg,seval,if_true,if_false,reduceCtorEq,Nat.reduceEqDiff];with_reducible rfl)))
 refine RunK.regTag (cfg_ok 6) (Tab.none.at' 117 hro) 2 4 (k:=1) (xs:=(roots (canon t)).map eL) (s1:=?_) ?_ ?_ ?_
 rotate_left 1
 focus (simp only [Zg,seval,if_true,if_false,reduceCtorEq,Nat.reduceEqDiff,eL];with_reducible rfl)
 focus rfl
 intro xs' F ht hn hF
 obtain ⟨ps,e1,e2,e3⟩:=tag_rows ht
 subst e2
 have hlen:(roots (canon t)).length = t.length:=by rw [roots_len,canon_len (lev8_lev h8)]
 have hpos:=(lev8_lev h8).pos
 have hpl:ps.length = t.length:=by rw [← hlen,e1,List.length_map]
 obtain ⟨p,qs,rfl⟩:∃ p qs,ps = p :: qs:=by
  cases ps with
  | nil => simp at hpl;omega
  | cons p qs => exact ⟨p,qs,rfl⟩
 have hmf:=a_MinFunc eLT (fun p => .tag p.2 (.sl 1 (p.1.map eI))) (·.1) (fun _ => rfl) (fun _ => rfl) p qs (by have:=lev8_len h8;simp at hpl;omega)
 refine ROps.opsT (cfg_ok 6) (T:=Tab.none.at' 170 hmf) (s':=?_) ?_ ?_
 rotate_left 1
 focus (simp only [Zg,seval,if_true,if_false,reduceCtorEq,Nat.reduceEqDiff];with_reducible rfl)
 repeat' (first|with_reducible (first|refine Q1 ?_|refine Q2 ?_|refine Q3 ?_|refine Q4 ?_|refine Q5 ?_|refine Q6 ?_|refine Q7 ?_|refine Q8 ?_|refine Q9 ?_|refine Qa ?_|refine Qb ?_|refine Qc ?_|refine Qd ?_|refine Qe ?_|refine Qf ?_)|((with_reducible refine Qo ?_ ?_);focus rfl)|((with_reducible first|refine QT 3 (l:=?_) ?_ ?_|refine QF 3 (l:=?_) ?_ ?_);rotate_left 1;focus (simp only [Zu,Nat.reduceSub,Nat.reduceBEq];with_reducible rfl))|((with_reducible first|refine QS (cfg_ok 6) Tab.none (s':=?_) ?_ ?_|refine QC (b:=?_) ?_ ?_);rotate_left 1;focus ((with_reducible refine QW ?_);simp only [Zg,seval,if_true,if_false,reduceCtorEq,Nat.reduceEqDiff];with_reducible rfl)))
 have hm:=minE_mem (fun x:List Int × List Nat => x.1) qs p
 have hf:=minE_f (fun x:List Int × List Nat => x.1) qs p
 rw [← e1] at hf
 refine Ends.un (by simp) hres hrts (r:=?_) (r':=.own 1 ((freeT (canon t)).map eI) true) (l:=[]) (ks:=?_) ?_ ?_ (by simp) ?_ rfl
 rotate_left 2
 focus (simp only [aresults,ares,Zg,seval,if_true,if_false,reduceCtorEq,Nat.reduceEqDiff];with_reducible rfl)
 focus simp
 unfold freeT
 rw [← hf]
 have hsub:∀ b ∈ (minE (fun x:List Int × List Nat => x.1) p qs).2,b ∈ F:=fun b hb => by
  rw [e3]
  exact List.mem_flatten.2 ⟨_,List.mem_map.2 ⟨_,hm,rfl⟩,hb⟩
 refine ⟨(minE (fun x:List Int × List Nat => x.1) p qs).2,?_,fun b hb => hF b (hsub b hb),.inr ⟨1,_,rfl,rfl⟩⟩
 rw [e3] at hn
 exact hn.sublist (List.sublist_flatten_of_mem (List.mem_map.2 ⟨_,hm,rfl⟩))
def frOf (t:List Int):List Int × Int:=if lev8 t = true then (freeT (canon t),0) else ([],1)
theorem a_impl_FreeForm (t:List Int):AFn Try.prog 40 [eL t] (· = [.own 1 ((frOf t).1.map eI) true,.val (.int (frOf t).2)]):=by
 have h1:=a_impl_IsLevels t
 refine AFn.of_runs (cfg_ok 9) Try.func40 rfl rfl rfl (by simp only [List.length_cons,List.length_nil];decide) ?_
 have hres:Try.f40.results.toList = [.tmp 2,.tmp 3]:=rfl
 have hrts:Try.f40.resultTypes.toList = [24,2]:=rfl
 simp only [argRegs,argAV1,eL,eI,eLL,eB,Nat.zero_add,Nat.reduceAdd]
 intro M
 refine RunK.of ?_
 by_cases h8:lev8 t = true
 ·have h2:=a_freeForm t h8
  unfold frOf
  rw [if_pos h8]
  repeat' (first|with_reducible (first|refine Q1 ?_|refine Q2 ?_|refine Q3 ?_|refine Q4 ?_|refine Q5 ?_|refine Q6 ?_|refine Q7 ?_|refine Q8 ?_|refine Q9 ?_|refine Qa ?_|refine Qb ?_|refine Qc ?_|refine Qd ?_|refine Qe ?_|refine Qf ?_)|((with_reducible refine Qo ?_ ?_);focus rfl)|((with_reducible first|refine QT 4 (l:=?_) ?_ ?_|refine QF 4 (l:=?_) ?_ ?_);rotate_left 1;focus (simp only [Zu,Nat.reduceSub,Nat.reduceBEq];with_reducible rfl))|((with_reducible first|refine QS (cfg_ok 9) ((Tab.none.at' 49 h1).at' 119 h2) (s':=?_) ?_ ?_|refine QC (b:=?_) ?_ ?_);rotate_left 1;focus ((with_reducible refine QW ?_);simp only [Zg,seval,if_true,if_false,reduceCtorEq,Nat.reduceEqDiff,eL,h8];with_reducible rfl)))
  (refine Ends.mk (by simp) (rs:=?_) (ks:=?_) hres hrts ?_ ?_ ?_;rotate_left 2;(focus (simp only [Ze,Zg,seval,if_true,if_false,reduceCtorEq,Nat.reduceEqDiff];with_reducible rfl));(focus simp);focus (first|with_reducible rfl|(simp only [Zv];done)))
 ·have h8':lev8 t = false:=by simpa using h8
  unfold frOf
  rw [if_neg h8]
  repeat' (first|with_reducible (first|refine Q1 ?_|refine Q2 ?_|refine Q3 ?_|refine Q4 ?_|refine Q5 ?_|refine Q6 ?_|refine Q7 ?_|refine Q8 ?_|refine Q9 ?_|refine Qa ?_|refine Qb ?_|refine Qc ?_|refine Qd ?_|refine Qe ?_|refine Qf ?_)|((with_reducible refine Qo ?_ ?_);focus rfl)|((with_reducible first|refine QT 4 (l:=?_) ?_ ?_|refine QF 4 (l:=?_) ?_ ?_);rotate_left 1;focus (simp only [Zu,Nat.reduceSub,Nat.reduceBEq];with_reducible rfl))|((with_reducible first|refine QS (cfg_ok 9) (Tab.none.at' 49 h1) (s':=?_) ?_ ?_|refine QC (b:=?_) ?_ ?_);rotate_left 1;focus ((with_reducible refine QW ?_);simp only [Zg,seval,if_true,if_false,reduceCtorEq,Nat.reduceEqDiff,eL,h8'];with_reducible rfl)))
  (refine Ends.mk (by simp) (rs:=?_) (ks:=?_) hres hrts ?_ ?_ ?_;rotate_left 2;(focus (simp only [Ze,Zg,seval,if_true,if_false,reduceCtorEq,Nat.reduceEqDiff];with_reducible rfl));(focus simp);focus (first|with_reducible rfl|(simp only [Zv];done)))
end Go.Proofs.Ytofpjonggpjneaa
