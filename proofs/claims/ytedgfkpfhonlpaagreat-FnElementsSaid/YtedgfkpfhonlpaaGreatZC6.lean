/- Lemmas (6). -/
import Derived.Test.YtedgfkpfhonlpaaGreatZC4
import Derived.Test.YtedgfkpfhonlpaaGreatZC5
set_option maxHeartbeats 16000000
set_option maxRecDepth 100000
set_option linter.unusedSimpArgs false
set_option linter.unusedVariables false
namespace Go.Proofs.YtedgfkpfhonlpaaGreat
open Go.RowKit
section
theorem a_l03Before (xs ys:List Int):AFn Tryz.prog 129 [eL xs,eL ys] (· = [.val (.bool (decide (cmpT xs ys < 0)))]) :=
 AFn.of_q (v:=.bool _) (enters_of Tryz.func129 rfl rfl) (fun _ _ => jD.2 rfl) (fun w A vs ⟨v1,_,e1,h1,v2,_,e2,h2,e3⟩ => by subst e3;subst e2;subst e1;exact jB0 v1 v2 xs ys w (Rd.of (rd1 h1)) (Rd.of (rd1 h2)))
theorem a_l01Same (xs ys:List Int):AFn Tryz.prog 189 [eL xs,eL ys] (· = [.val (.bool (decide (xs = ys)))]) :=
 AFn.of_q (v:=.bool _) (enters_of Tryz.func189 rfl rfl) (fun _ _ => jD.2 rfl) (fun w A vs ⟨v1,_,e1,h1,v2,_,e2,h2,e3⟩ => by subst e3;subst e2;subst e1;exact c_spec_l01Same v1 v2 xs ys w (Rd.of (rd1 h1)) (Rd.of (rd1 h2)))
theorem a_l01Own (xs:List Int) (hsz:xs.length ≤ 1000000000):AFn Tryz.prog 133 [eL xs] (· = [.own 1 (xs.map eI) true]) :=
 AFn.of_o encI (enters_of Tryz.func133 rfl rfl) (fun w A vs ⟨v1,_,e1,h1,e2⟩ => by subst e2;subst e1;exact yQ0 v1 xs w (Rd.of (rd1 h1)) hsz)
theorem cmpT_in64 {xs ys:List Int} (h1:xs.length ≤ maxLen) (h2:ys.length ≤ maxLen):qA (cmpT xs ys):=by
 unfold maxLen at h1 h2
 unfold cmpT qA
 have:=cmpL_range ys xs
 split <;> omega
theorem a_compareTrees (xs ys:List Int):AFn Tryz.prog 119 [eL xs,eL ys] (· = [.val (.int (cmpT xs ys))]):=by
 refine ⟨enters_of Tryz.func119 rfl rfl,fun A w vs hA ⟨v1,_,e1,h1,v2,_,e2,h2,e3⟩ => ?_⟩
 subst e3;subst e2;subst e1
 obtain ⟨oa,c1,k1,m1,m2⟩:=(Rd.of (rd1 h1)).val
 obtain ⟨ob,c2,k2,m3,m4⟩:=(Rd.of (rd1 h2)).val
 refine (qA0 v1 v2 xs ys w (Rd.of (rd1 h1)) (Rd.of (rd1 h2))).mono ?_
 rintro e w' ⟨rfl,rfl⟩
 exact ⟨_,_,rfl,rfl,Below.refl _ _,[_],[],[],rfl,List.nodup_nil,by simp,_,[],[],[],[],[],rfl,rfl,rfl,rfl,⟨jQ.2 ⟨rfl,cmpT_in64 (by omega) (by omega)⟩,rfl,rfl⟩,rfl,rfl,rfl⟩
theorem a_impl_IsLevels (t:List Int):AFn Tryz.prog 57 [eL t] (· = [.val (.bool (lev8 t))]):=afn_L_s (v:=.bool _) (enters_of Tryz.func57 rfl rfl) (fun _ _ => jD.2 rfl) (fun u w h => jC0 u t w h)
theorem a_spec_l03Is (t:List Int) (hsz:t.length ≤ 1048576):AFn Tryz.prog 188 [eL t] (· = [.val (.bool (lev8 t))]):=afn_L_q (v:=.bool _) (enters_of Tryz.func188 rfl rfl) (fun _ _ => jD.2 rfl) (fun u w h => c_spec_l03Is u t w h (by omega))
theorem a_slicesEqual (xs ys:List Int):AFn Tryz.prog 180 [eL xs,eL ys] (· = [.val (.bool (decide (xs = ys)))]):=afn_LL_q (v:=.bool _) (enters_of Tryz.func180 rfl rfl) (fun _ _ => jD.2 rfl) (fun u1 u2 w h1 h2 => c_slicesEqual u1 u2 xs ys w h1 h2)
theorem a_spec_l01In (x y z:Int):AFn Tryz.prog 135 [eI x,eI y,eI z] (· = [.val (.bool (inR x y z))]):=afn_III_s (v:=.bool _) (enters_of Tryz.func135 rfl rfl) (fun _ _ => jD.2 rfl) (fun w => jJ0 x y z w)
theorem a_l03Canon (t:List Int) (h:qK t) (hl:t.length ≤ 8):AFn Tryz.prog 186 [eL t] (· = [.own 1 ((canon t).map eI) true]) :=
 afn_L_o (enters_of Tryz.func186 rfl rfl) (fun u w h' => jF0 8 u t w h' h hl (by omega))
theorem a_canonical (t:List Int) (h:qK t) (hl:t.length ≤ 8):AFn Tryz.prog 91 [eL t] (· = [.own 1 ((canon t).map eI) true]) :=
 afn_L_o (enters_of Tryz.func91 rfl rfl) (fun u w h' => yB0 8 u t w h' h hl (by omega))
theorem nodesB_in64 (f:List (List Int)):qA (jV f):=by
 have:∀ (bs:List (List Int)) (a:Int),qA a→qA (bs.foldl (fun a b => wrap64 (a + (b.length:Int))) a):=by
  intro bs
  induction bs with
  | nil => intro a h;exact h
  | cons b bs ih => intro a _;exact ih _ (by show qA (wrap64 (a + (b.length:Int)));unfold qA wrap64;omega)
 exact this f 0 (by unfold qA;omega)
theorem a_nodesIn (f:List (List Int)):AFn Tryz.prog 88 [eLL f] (· = [.val (.int (jV f))]) :=
 afn_LLL_s (enters_of Tryz.func88 rfl rfl) (fun _ _ => jQ.2 ⟨rfl,nodesB_in64 f⟩) (fun u w h => qR0 u f w h)
theorem a_l03Nodes (f:List (List Int)):AFn Tryz.prog 130 [eLL f] (· = [.val (.int (jV f))]) :=
 afn_LLL_s (enters_of Tryz.func130 rfl rfl) (fun _ _ => jQ.2 ⟨rfl,nodesB_in64 f⟩) (fun u w h => c_spec_l03Nodes u f w h)
end
section
def mP (n:Int):Int:=n % 10007
section
variable {κ:Type} (c:κ→κ→Int)
def putS:List (Int × κ)→Int→κ→List (Int × κ)
 | [],k,x => if k = 0 then [] else [(k,x)]
 | (a,y) :: L,k,x => if k = 0 then (a,y) :: L else if c x y < 0 then (k,x) :: (a,y) :: L
   else if c x y = 0 then (if mP (a + k) = 0 then L else (mP (a + k),y) :: L) else (a,y) :: putS L k x
def addS (L:List (Int × κ)) (M:List (Int × κ)):List (Int × κ):=M.foldl (fun s q => putS c s q.1 q.2) L
def sumS (M:List (Int × κ)):List (Int × κ):=addS c [] M
def coef (L:List (Int × κ)) (x:κ):Int :=
 match L with
 | [] => 0
 | q :: L => (if c q.2 x = 0 then q.1 else 0) + coef L x
def NfS (L:List (Int × κ)):Prop:=L.Pairwise (fun p q => c p.2 q.2 < 0)∧∀ q ∈ L,1 ≤ q.1∧q.1 < 10007
end
section
variable {κ:Type} {c:κ→κ→Int} (hc:Cmp c)
theorem jO (n:Int):0 ≤ mP n∧mP n < 10007:=⟨Int.emod_nonneg _ (by decide),Int.emod_lt_of_pos _ (by decide)⟩
theorem mP_small {n:Int} (h:0 ≤ n) (h':n < 10007):mP n = n:=Int.emod_eq_of_lt h h'
theorem jE (q:Int × κ) (L:List (Int × κ)) (x:κ):coef c (q :: L) x = (if c q.2 x = 0 then q.1 else 0) + coef c L x:=rfl
theorem vX (x:κ):∀ (L M:List (Int × κ)),coef c (L ++ M) x = coef c L x + coef c M x
 | [],M => by simp [coef]
 | q :: L,M => by rw [List.cons_append,jE,jE,vX x L M];omega
theorem coef_perm {L M:List (Int × κ)} (h:L.Perm M) (x:κ):coef c L x = coef c M x:=by
 induction h with
 | nil => rfl
 | cons q _ ih => rw [jE,jE,ih]
 | swap p q L => simp only [jE];omega
 | trans _ _ h1 h2 => rw [h1,h2]
theorem kZ {L:List (Int × κ)} {x:κ} (h:∀ q ∈ L,c q.2 x ≠ 0):coef c L x = 0:=by
 induction L with
 | nil => rfl
 | cons q L ih => rw [jE,if_neg (h q (by simp)),ih (fun p hp => h p (by simp [hp]))];rfl
theorem vE {α:Type} (l:List α):l = [] ∨ ∃ o x,l = o ++ [x]:=by
 rcases List.eq_nil_or_concat l with h|⟨o,x,h⟩
 ·exact .inl h
 ·exact .inr ⟨o,x,by rw [h,List.concat_eq_append]⟩
include hc
theorem Cmp.lt_ne {a b:κ} (h:c a b < 0):c b a ≠ 0:=by
 intro e
 have:=hc.zero b a e
 subst this
 rw [hc.refl] at h;omega
theorem Cmp.lt_tr {a b d:κ} (h1:c a b < 0) (h2:c b d < 0):c a d < 0:=by
 rcases Int.lt_trichotomy (c a d) 0 with h|h|h
 ·exact h
 ·have:=hc.zero a d h
  subst this
  have:=(hc.anti a b).1 h1
  omega
 ·have:=hc.trans a b d (by omega) (by omega)
  omega
theorem NfS.ext:∀ {L M:List (Int × κ)},NfS c L→NfS c M→(∀ x,mP (coef c L x) = mP (coef c M x))→L = M
 | [],[],_,_,_ => rfl
 | [],(b,z) :: M,_,⟨h2,h3⟩,he => by
  exfalso
  rw [List.pairwise_cons] at h2
  have h0:coef c M z = 0:=kZ (fun q hq => hc.lt_ne (h2.1 q hq))
  have:=he z
  rw [jE,if_pos (hc.refl z),h0] at this
  have hb:=h3 (b,z) (by simp)
  simp at hb
  simp [coef,mP] at this
  omega
 | (a,y) :: L,[],⟨h2,h3⟩,_,he => by
  exfalso
  rw [List.pairwise_cons] at h2
  have h0:coef c L y = 0:=kZ (fun q hq => hc.lt_ne (h2.1 q hq))
  have:=he y
  rw [jE,if_pos (hc.refl y),h0] at this
  have hb:=h3 (a,y) (by simp)
  simp at hb
  simp [coef,mP] at this
  omega
 | (a,y) :: L,(b,z) :: M,⟨h1,h1'⟩,⟨h2,h2'⟩,he => by
  have w1:=h1;have w2:=h2
  rw [List.pairwise_cons] at h1 h2
  have ha:=h1' (a,y) (by simp)
  have hb:=h2' (b,z) (by simp)
  simp only at ha hb
  have hy0:coef c L y = 0:=kZ (fun q hq => hc.lt_ne (h1.1 q hq))
  have hz0:coef c M z = 0:=kZ (fun q hq => hc.lt_ne (h2.1 q hq))
  rcases Int.lt_trichotomy (c y z) 0 with h|h|h
  ·exfalso
   have h4:coef c ((b,z) :: M) y = 0:=kZ (fun q hq => by
    rcases List.mem_cons.1 hq with rfl|hq
    ·exact hc.lt_ne h
    ·exact hc.lt_ne (hc.lt_tr h (h2.1 q hq)))
   have:=he y
   rw [h4,jE,if_pos (hc.refl y),hy0] at this
   simp [mP] at this
   omega
  ·obtain rfl:=hc.zero y z h
   have hab:a = b:=by
    have:=he y
    rw [jE,jE,if_pos (hc.refl y),if_pos (hc.refl y),hy0,hz0] at this
    simp [mP] at this
    omega
   subst hab
   have:=NfS.ext (L:=L) (M:=M) ⟨h1.2,fun q hq => h1' q (by simp [hq])⟩ ⟨h2.2,fun q hq => h2' q (by simp [hq])⟩ (fun x => by
    have:=he x
    rw [jE,jE] at this
    unfold mP at this ⊢
    omega)
   rw [this]
  ·exfalso
   have h:=(hc.anti z y).2 h
   have h4:coef c ((a,y) :: L) z = 0:=kZ (fun q hq => by
    rcases List.mem_cons.1 hq with rfl|hq
    ·exact hc.lt_ne h
    ·exact hc.lt_ne (hc.lt_tr h (h1.1 q hq)))
   have:=he z
   rw [h4,jE,if_pos (hc.refl z),hz0] at this
   simp [mP] at this
   omega
omit hc in
theorem putS_mem:∀ (L:List (Int × κ)) (k:Int) (x:κ) {q:Int × κ},q ∈ putS c L k x→q.2 = x ∨ ∃ p ∈ L,p.2 = q.2
 | [],k,x,q,h => by
  unfold putS at h
  split at h
  ·cases h
  ·simp at h;subst h;exact .inl rfl
 | (a,y) :: L,k,x,q,h => by
  unfold putS at h
  split at h
  ·exact .inr ⟨q,h,rfl⟩
  ·split at h
   ·rcases List.mem_cons.1 h with rfl|h
    ·exact .inl rfl
    ·exact .inr ⟨q,h,rfl⟩
   ·split at h
    ·split at h
     ·exact .inr ⟨q,by simp [h],rfl⟩
     ·rcases List.mem_cons.1 h with rfl|h
      ·exact .inr ⟨(a,y),by simp,rfl⟩
      ·exact .inr ⟨q,by simp [h],rfl⟩
    ·rcases List.mem_cons.1 h with rfl|h
     ·exact .inr ⟨(a,y),by simp,rfl⟩
     ·rcases putS_mem L k x h with h|⟨p,h1,h2⟩
      ·exact .inl h
      ·exact .inr ⟨p,by simp [h1],h2⟩
theorem putS_nf:∀ {L:List (Int × κ)} {k:Int} {x:κ},NfS c L→0 ≤ k→k < 10007→NfS c (putS c L k x)
 | [],k,x,h,h0,h1 => by
  unfold putS
  split
  ·exact h
  ·exact ⟨List.pairwise_singleton _ _,fun q hq => by simp at hq;subst hq;simp;omega⟩
 | (a,y) :: L,k,x,⟨h2,h3⟩,h0,h1 => by
  have hw:=h2
  rw [List.pairwise_cons] at h2
  have ha:=h3 (a,y) (by simp)
  simp only at ha
  unfold putS
  split
  ·exact ⟨hw,h3⟩
  ·split
   ·rename_i hk hlt
    refine ⟨List.pairwise_cons.2 ⟨fun q hq => ?_,hw⟩,fun q hq => ?_⟩
    ·rcases List.mem_cons.1 hq with rfl|hq
     ·exact hlt
     ·exact hc.lt_tr hlt (h2.1 q hq)
    ·rcases List.mem_cons.1 hq with rfl|hq
     ·simp;omega
     ·exact h3 q hq
   ·split
    ·split
     ·exact ⟨h2.2,fun q hq => h3 q (by simp [hq])⟩
     ·refine ⟨List.pairwise_cons.2 ⟨h2.1,h2.2⟩,fun q hq => ?_⟩
      rcases List.mem_cons.1 hq with rfl|hq
      ·have:=jO (a + k);simp only;omega
      ·exact h3 q (by simp [hq])
    ·rename_i hk hnl hne
     have ih:=putS_nf (k:=k) (x:=x) ⟨h2.2,fun q hq => h3 q (by simp [hq])⟩ h0 h1
     have hyx:c y x < 0:=by
      rcases Int.lt_trichotomy (c x y) 0 with h|h|h
      ·exact absurd h hnl
      ·exact absurd h hne
      ·exact (hc.anti y x).2 h
     refine ⟨List.pairwise_cons.2 ⟨fun q hq => ?_,ih.1⟩,fun q hq => ?_⟩
     ·rcases putS_mem L k x hq with h|⟨p,hp,h⟩
      ·rw [h];exact hyx
      ·rw [← h];exact h2.1 p hp
     ·rcases List.mem_cons.1 hq with rfl|hq
      ·exact ha
      ·exact ih.2 q hq
theorem putS_coef (z:κ):∀ (L:List (Int × κ)) (k:Int) (x:κ),mP (coef c (putS c L k x) z) = mP (coef c L z + if c x z = 0 then k else 0)
 | [],k,x => by
  unfold putS
  split
  ·rename_i h;subst h;simp
  ·simp [coef]
 | (a,y) :: L,k,x => by
  unfold putS
  split
  ·rename_i h;subst h;simp
  ·split
   ·rw [jE];congr 1;simp only;omega
   ·split
    ·rename_i h
     obtain rfl:=hc.zero x y h
     split
     ·rename_i h4
      rw [jE]
      by_cases h5:c x z = 0
      ·simp only [if_pos h5];unfold mP at h4 ⊢;omega
      ·simp only [if_neg h5];congr 1;omega
     ·rw [jE,jE]
      by_cases h5:c x z = 0
      ·simp only [if_pos h5];unfold mP;omega
      ·simp only [if_neg h5];congr 1;omega
    ·rw [jE,jE]
     have ih:=putS_coef z L k x
     unfold mP at ih ⊢
     omega
theorem addS_nf:∀ {M L:List (Int × κ)},NfS c L→(∀ q ∈ M,0 ≤ q.1∧q.1 < 10007)→NfS c (addS c L M)
 | [],L,h,_ => h
 | q :: M,L,h,hM => addS_nf (M:=M) (putS_nf hc h (hM q (by simp)).1 (hM q (by simp)).2) (fun p hp => hM p (by simp [hp]))
theorem addS_coef (z:κ):∀ (M L:List (Int × κ)),mP (coef c (addS c L M) z) = mP (coef c L z + coef c M z)
 | [],L => by simp [addS,coef]
 | q :: M,L => by
  show mP (coef c (addS c (putS c L q.1 q.2) M) z) = _
  have h1:=addS_coef z M (putS c L q.1 q.2)
  have h2:=putS_coef hc z L q.1 q.2
  rw [h1,jE]
  unfold mP at h2 ⊢
  omega
theorem kU {M:List (Int × κ)} (hM:∀ q ∈ M,0 ≤ q.1∧q.1 < 10007):NfS c (sumS c M):=addS_nf hc ⟨List.Pairwise.nil,fun q hq => nomatch hq⟩ hM
theorem sumS_coef (M:List (Int × κ)) (z:κ):mP (coef c (sumS c M) z) = mP (coef c M z):=by
 have:=addS_coef hc z M []
 rw [show coef c [] z = 0 from rfl,Int.zero_add] at this
 exact this
theorem sumS_self {L:List (Int × κ)} (h:NfS c L):sumS c L = L :=
 NfS.ext hc (kU hc (fun q hq => by have:=h.2 q hq;omega)) h (fun x => sumS_coef hc L x)
omit hc
def jN (c:κ→κ→Int):List (Int × κ)→List (Int × κ)→List (Int × κ)
 | out,[] => out
 | out,(a,x) :: M => jN c (match out.getLast? with
  | some (b,y) => if c y x = 0 then out.dropLast ++ [(mP (b + a),y)] else out ++ [(mP a,x)]
  | none => [(mP a,x)]) M
include hc
theorem mergeTo_coef (z:κ):∀ (M out:List (Int × κ)),mP (coef c (jN c out M) z) = mP (coef c out z + coef c M z)
 | [],out => by simp [jN,coef]
 | (a,x) :: M,out => by
  unfold jN
  rw [mergeTo_coef z M,jE]
  rcases vE out with rfl|⟨o,⟨b,y⟩,rfl⟩
  ·simp only [List.getLast?_nil,coef]
   by_cases h5:c x z = 0
   ·simp only [if_pos h5];unfold mP;omega
   ·simp only [if_neg h5];unfold mP;omega
  ·rw [List.getLast?_concat]
   simp only
   split
   ·rename_i h
    obtain rfl:=hc.zero y x h
    rw [List.dropLast_concat,vX,vX]
    simp only [coef]
    by_cases h5:c y z = 0
    ·simp only [if_pos h5];unfold mP;omega
    ·simp only [if_neg h5];congr 1;omega
   ·rw [vX]
    simp only [coef]
    by_cases h5:c x z = 0
    ·simp only [if_pos h5];unfold mP;omega
    ·simp only [if_neg h5];unfold mP;omega
theorem wN:∀ (M out:List (Int × κ)),M.Pairwise (fun p q => c p.2 q.2 ≤ 0)→out.Pairwise (fun p q => c p.2 q.2 < 0)→(∀ p ∈ out,∀ q ∈ M,c p.2 q.2 ≤ 0)→(∀ q ∈ out,0 ≤ q.1∧q.1 < 10007) →
  (jN c out M).Pairwise (fun p q => c p.2 q.2 < 0)∧∀ q ∈ jN c out M,0 ≤ q.1∧q.1 < 10007
 | [],out,_,h2,_,h4 => ⟨h2,h4⟩
 | (a,x) :: M,out,h1,h2,h3,h4 => by
  rw [List.pairwise_cons] at h1
  unfold jN
  rcases vE out with rfl|⟨o,⟨b,y⟩,rfl⟩
  ·simp only [List.getLast?_nil]
   exact wN M _ h1.2 (List.pairwise_singleton _ _) (fun p hp q hq => by simp at hp;subst hp;exact h1.1 q hq) (fun q hq => by simp at hq;subst hq;exact jO a)
  ·rw [List.getLast?_concat]
   simp only
   have h2':=List.pairwise_append.1 h2
   split
   ·rename_i h
    obtain rfl:=hc.zero y x h
    rw [List.dropLast_concat]
    refine wN M _ h1.2 (List.pairwise_append.2 ⟨h2'.1,List.pairwise_singleton _ _,fun p hp q hq => ?_⟩) (fun p hp q hq => ?_) (fun q hq => ?_)
    ·simp at hq;subst hq;exact h2'.2.2 p hp (b,y) (by simp)
    ·rcases List.mem_append.1 hp with hp|hp
     ·exact h3 p (by simp [hp]) q (by simp [hq])
     ·simp at hp;subst hp;exact h1.1 q hq
    ·rcases List.mem_append.1 hq with hq|hq
     ·exact h4 q (by simp [hq])
     ·simp at hq;subst hq;exact jO _
   ·rename_i h
    have hyx:c y x < 0:=by
     have:=h3 (b,y) (by simp) (a,x) (by simp)
     simp only at this
     omega
    refine wN M _ h1.2 (List.pairwise_append.2 ⟨h2,List.pairwise_singleton _ _,fun p hp q hq => ?_⟩) (fun p hp q hq => ?_) (fun q hq => ?_)
    ·simp at hq;subst hq
     rcases List.mem_append.1 hp with hp|hp
     ·exact hc.lt_tr (h2'.2.2 p hp (b,y) (by simp)) hyx
     ·simp at hp;subst hp;exact hyx
    ·rcases List.mem_append.1 hp with hp|hp
     ·exact h3 p hp q (by simp [hq])
     ·simp at hp;subst hp;exact h1.1 q hq
    ·rcases List.mem_append.1 hq with hq|hq
     ·exact h4 q hq
     ·simp at hq;subst hq;exact jO _
omit hc in
theorem coef_filter (z:κ) (L:List (Int × κ)):coef c (L.filter fun q => !decide (q.1 = 0)) z = coef c L z:=by
 induction L with
 | nil => rfl
 | cons q L ih =>
  rw [List.filter_cons]
  by_cases h:q.1 = 0
  ·simp only [h,decide_true,Bool.not_true,Bool.false_eq_true,if_false,ih,jE];simp
  ·simp only [h,decide_false,Bool.not_false,if_true,jE,ih]
theorem merge_sum {L S:List (Int × κ)} (hp:S.Perm L) (hs:S.Pairwise (fun p q => c p.2 q.2 ≤ 0)) (hL:∀ q ∈ L,0 ≤ q.1∧q.1 < 10007) :
  (jN c [] S).filter (fun q => !decide (q.1 = 0)) = sumS c L:=by
 obtain ⟨h1,h2⟩:=wN hc S [] hs List.Pairwise.nil (fun p hp => nomatch hp) (fun q hq => nomatch hq)
 refine NfS.ext hc ⟨h1.filter _,fun q hq => ?_⟩ (kU hc hL) (fun x => ?_)
 ·rw [List.mem_filter] at hq
  have:=h2 q hq.1
  have h0:q.1 ≠ 0:=by simpa using hq.2
  omega
 ·rw [coef_filter,sumS_coef hc,mergeTo_coef hc,← coef_perm hp]
  simp [coef]
end
end
section
def thenC {α:Type} (f:α→Int) (c:α→α→Int) (a b:α):Int:=if f a = f b then c a b else f a - f b
def lexC {α:Type} (c:α→α→Int):List α→List α→Int
 | [],[] => 0
 | [],_ :: _ => -1
 | _ :: _,[] => 1
 | a :: xs,b :: bs => if c a b = 0 then lexC c xs bs else c a b
theorem thenC_cmp {α:Type} {f:α→Int} {c:α→α→Int} (h:Cmp c):Cmp (thenC f c) where
 zero a b e:=by
  unfold thenC at e
  split at e
  ·exact h.zero a b e
  ·omega
 refl a:=by unfold thenC;rw [if_pos rfl];exact h.refl a
 anti a b:=by
  unfold thenC
  by_cases e:f a = f b
  ·rw [if_pos e,if_pos e.symm];exact h.anti a b
  ·rw [if_neg e,if_neg (fun k => e k.symm)];omega
 trans a b d h1 h2:=by
  unfold thenC at h1 h2 ⊢
  split at h1 <;> split at h2 <;> split <;> first|omega|(exact h.trans a b d h1 h2)
theorem Cmp.sym0 {α:Type} {c:α→α→Int} (h:Cmp c) {a b:α} (e:c a b = 0):c b a = 0:=by rw [h.zero a b e];exact h.refl b
theorem lexC_cmp {α:Type} {c:α→α→Int} (h:Cmp c):Cmp (lexC c) where
 zero:=by
  intro a
  induction a with
  | nil => intro b e;cases b with
   | nil => rfl
   | cons y bs => simp [lexC] at e
  | cons x xs ih => intro b e;cases b with
   | nil => simp [lexC] at e
   | cons y bs =>
    unfold lexC at e
    split at e
    ·rename_i h1;rw [h.zero x y h1,ih bs e]
    ·rename_i h1;exact absurd e h1
 refl:=by
  intro a
  induction a with
  | nil => rfl
  | cons x xs ih => unfold lexC;rw [if_pos (h.refl x)];exact ih
 anti:=by
  intro a
  induction a with
  | nil => intro b;cases b <;> simp [lexC]
  | cons x xs ih => intro b;cases b with
   | nil => simp [lexC]
   | cons y bs =>
    unfold lexC
    by_cases e:c x y = 0
    ·rw [if_pos e,if_pos (h.sym0 e)];exact ih bs
    ·rw [if_neg e,if_neg (fun k => e (h.sym0 k))];exact h.anti x y
 trans:=by
  intro a
  induction a with
  | nil => intro b d _ h2;cases d with
   | nil => simp [lexC]
   | cons z ds => simp [lexC]
  | cons x xs ih => intro b d h1 h2;cases b with
   | nil => simp [lexC] at h1
   | cons y bs => cases d with
    | nil => simp [lexC] at h2
    | cons z ds =>
     unfold lexC at h1 h2 ⊢
     have l1:c x y ≤ 0:=by split at h1 <;> omega
     have l2:c y z ≤ 0:=by split at h2 <;> omega
     have l3:=h.trans x y z l1 l2
     by_cases e:c x z = 0
     ·rw [if_pos e]
      obtain rfl:=h.zero x z e
      have e1:c x y = 0:=by
       rcases Int.lt_trichotomy (c x y) 0 with k|k|k
       ·have:=(h.anti x y).1 k;omega
       ·exact k
       ·omega
      rw [if_pos e1] at h1
      rw [if_pos (h.sym0 e1)] at h2
      exact ih bs ds h1 h2
     ·rw [if_neg e];exact l3
def cmpF:List (List Int)→List (List Int)→Int:=thenC (fun f => (qX f:Int)) (thenC (fun f => (f.length:Int)) (lexC cmpT))
theorem jK:Cmp cmpF:=thenC_cmp (thenC_cmp (lexC_cmp xK))
def sgn (n:Int):Int:=if n < 0 then -1 else if n = 0 then 0 else 1
end
section
section
variable {α:Type} {c:α→α→Int} (hc:Cmp c)
include hc
theorem lexC_ins (x:α):∀ {f g:List α},f.Pairwise (fun a b => c a b ≤ 0)→g.Pairwise (fun a b => c a b ≤ 0)→f.length = g.length→lexC c f g < 0→lexC c (ins c x f) (ins c x g) < 0
 | [],[],_,_,_,h => by simp [lexC] at h
 | [],_ :: _,_,_,hl,_ => by simp at hl
 | _ :: _,[],_,_,hl,_ => by simp at hl
 | a :: f,b :: g,h1,h2,hl,h => by
  have w1:=h1
  rw [List.pairwise_cons] at h1 h2
  have hself:∀ y:α,∀ u v,lexC c (y :: u) (y :: v) = lexC c u v:=fun y u v => by show (if c y y = 0 then _ else _) = _;rw [if_pos (hc.refl y)]
  have hlt:∀ (y z:α) u v,c y z < 0→lexC c (y :: u) (z :: v) < 0:=fun y z u v hyz => by
   show (if c y z = 0 then _ else _) < 0
   rw [if_neg (by omega)];exact hyz
  by_cases hab:c a b = 0
  ·obtain rfl:=hc.zero a b hab
   have h3:lexC c f g < 0:=by rwa [hself] at h
   unfold ins
   split
   ·rw [hself,hself];exact h3
   ·rw [hself]
    exact lexC_ins x h1.2 h2.2 (by simpa using hl) h3
  ·have hab':c a b < 0:=by
    have:(if c a b = 0 then lexC c f g else c a b) < 0:=h
    rwa [if_neg hab] at this
   by_cases hxa:c x a < 0
   ·have hxb:=hc.lt_tr hxa hab'
    unfold ins
    rw [if_pos hxa,if_pos hxb,hself]
    exact hlt _ _ _ _ hab'
   ·by_cases hxb:c x b < 0
    ·unfold ins
     rw [if_neg hxa,if_pos hxb]
     have hax:=hc.le_of_not_lt hxa
     by_cases hax0:c a x = 0
     ·obtain rfl:=hc.zero a x hax0
      rw [hself]
      cases f with
      | nil => exact hlt _ _ _ _ hab'
      | cons y f =>
       unfold ins
       split
       ·exact hlt _ _ _ _ hab'
       ·rename_i hay
        have h5:=h1.1 y (by simp)
        have h6:c a y = 0:=by omega
        obtain rfl:=hc.zero a y h6
        exact hlt _ _ _ _ hab'
     ·exact hlt _ _ _ _ (by omega)
    ·unfold ins
     rw [if_neg hxa,if_neg hxb]
     exact hlt _ _ _ _ hab'
end
def mulF (f g:List (List Int)):List (List Int):=sortC cmpT (f ++ g)
theorem prime_small:∀ x < 102,2 ≤ x→10007 % x ≠ 0:=by decide +kernel
theorem prime_dvd {d:Nat} (h:d ∣ 10007):d = 1 ∨ d = 10007:=by
 obtain ⟨k,hk⟩:=h
 have hd:d ≠ 0:=by rintro rfl;omega
 have hk0:k ≠ 0:=by rintro rfl;omega
 by_cases h1:d = 1
 ·exact .inl h1
 ·by_cases h2:d < 102
  ·exact absurd (by rw [hk];exact Nat.mul_mod_right d k) (prime_small d h2 (by omega))
  ·by_cases h3:k = 1
   ·subst h3;right;omega
   ·have h4:k < 102:=by
     rcases Nat.lt_or_ge k 102 with h|h
     ·exact h
     ·have:=Nat.mul_le_mul (show 102 ≤ d by omega) h
      omega
    exact absurd (by rw [hk];exact Nat.mul_mod_left d k) (prime_small k h4 (by omega))
theorem prime_gcd (a:Nat) (ha:a < 10007) (h0:a ≠ 0):Nat.gcd 10007 a = 1:=by
 rcases prime_dvd (Nat.gcd_dvd_left 10007 a) with h|h
 ·exact h
 ·have:=Nat.le_of_dvd (by omega) (h ▸ Nat.gcd_dvd_right 10007 a)
  omega
theorem prime_mul {a b:Int} (ha:1 ≤ a∧a < 10007) (hb:1 ≤ b∧b < 10007):mP (a * b) ≠ 0:=by
 intro h
 obtain ⟨m,rfl⟩:=Int.eq_ofNat_of_zero_le (show 0 ≤ a by omega)
 obtain ⟨n,rfl⟩:=Int.eq_ofNat_of_zero_le (show 0 ≤ b by omega)
 have h1:(m * n) % 10007 = 0:=by
  unfold mP at h
  have:((m * n:Nat):Int) % 10007 = 0:=by rw [Int.natCast_mul];exact h
  omega
 have h2:10007 ∣ m * n:=Nat.dvd_of_mod_eq_zero h1
 have h3:Nat.Coprime 10007 m:=prime_gcd m (by omega) (by omega)
 have h4:=h3.dvd_of_dvd_mul_left h2
 have:=Nat.le_of_dvd (by omega) h4
 omega
theorem kP (f g:List (List Int)):(mulF f g).length = f.length + g.length:=by unfold mulF;rw [vP,List.length_append]
theorem xC (f g:List (List Int)):qX (mulF f g) = qX f + qX g:=by
 unfold mulF;rw [qI0 (xO _)];simp [qX]
theorem mulF_comm (f g:List (List Int)):mulF f g = mulF g f:=sortC_congr xK (List.perm_append_comm)
theorem mulF_sorted (f g:List (List Int)):(mulF f g).Pairwise (fun a b => cmpT a b ≤ 0):=wK xK _
theorem lexC_mul:∀ (h f g:List (List Int)),f.Pairwise (fun a b => cmpT a b ≤ 0)→g.Pairwise (fun a b => cmpT a b ≤ 0)→f.length = g.length→lexC cmpT f g < 0→lexC cmpT (h.foldl (fun s x => ins cmpT x s) f) (h.foldl (fun s x => ins cmpT x s) g) < 0
 | [],_,_,_,_,_,hlt => hlt
 | x :: h,f,g,h1,h2,hl,hlt => lexC_mul h _ _ (qV0 xK x f h1) (qV0 xK x g h2) (by rw [ins_length,ins_length,hl]) (lexC_ins xK x h1 h2 hl hlt)
theorem mulF_foldl {f:List (List Int)} (h:List (List Int)) (hf:f.Pairwise (fun a b => cmpT a b ≤ 0)):mulF f h = h.foldl (fun s x => ins cmpT x s) f:=by
 unfold mulF sortC
 rw [List.foldl_append]
 congr 1
 exact jD0 xK hf
theorem cmpF_mul {f g:List (List Int)} (h:List (List Int)) (hf:f.Pairwise (fun a b => cmpT a b ≤ 0)) (hg:g.Pairwise (fun a b => cmpT a b ≤ 0)) (hlt:cmpF f g < 0):cmpF (mulF f h) (mulF g h) < 0:=by
 unfold cmpF thenC at hlt ⊢
 simp only [xC,kP] at hlt ⊢
 by_cases h1:qX f = qX g
 ·by_cases h2:f.length = g.length
  ·rw [if_pos (by rw [h1])] at hlt ⊢
   rw [if_pos (by rw [h2])] at hlt ⊢
   rw [mulF_foldl h hf,mulF_foldl h hg]
   exact lexC_mul h f g hf hg h2 hlt
  ·rw [if_pos (by rw [h1])] at hlt ⊢
   rw [if_neg (by omega)] at hlt ⊢
   omega
 ·rw [if_neg (by omega)] at hlt ⊢
  omega
def prodL (d e:List (Int × List (List Int))):List (Int × List (List Int)):=d.flatMap fun p => e.map fun q => (mP (p.1 * q.1),mulF p.2 q.2)
def SrtF (L:List (Int × List (List Int))):Prop:=∀ q ∈ L,q.2.Pairwise fun a b => cmpT a b ≤ 0
theorem prodL_snoc (d e:List (Int × List (List Int))) (p:Int × List (List Int)):prodL (d ++ [p]) e = prodL d e ++ e.map fun q => (mP (p.1 * q.1),mulF p.2 q.2):=by
 unfold prodL;rw [List.flatMap_append];simp
theorem prod_top {d e:List (Int × List (List Int))} {p q:Int × List (List Int)} (hd:NfS cmpF (d ++ [p])) (he:NfS cmpF (e ++ [q])) (sd:SrtF (d ++ [p])) (se:SrtF (e ++ [q])) :
  mP (coef cmpF (prodL (d ++ [p]) (e ++ [q])) (mulF p.2 q.2)) = mP (p.1 * q.1):=by
 have h1:=(List.pairwise_append.1 hd.1).2.2
 have h2:=(List.pairwise_append.1 he.1).2.2
 have hC:=jK
 have hlast:∀ r ∈ e,cmpF (mulF p.2 r.2) (mulF p.2 q.2) < 0:=fun r hr => by
  rw [mulF_comm p.2 r.2,mulF_comm p.2 q.2]
  exact cmpF_mul p.2 (se r (by simp [hr])) (se q (by simp)) (h2 r hr q (by simp))
 have hfirst:coef cmpF (prodL d (e ++ [q])) (mulF p.2 q.2) = 0:=kZ (fun z hz => by
  unfold prodL at hz
  rw [List.mem_flatMap] at hz
  obtain ⟨r,hr,hz⟩:=hz
  rw [List.mem_map] at hz
  obtain ⟨u,hu,rfl⟩:=hz
  have h3:cmpF (mulF r.2 u.2) (mulF p.2 u.2) < 0:=cmpF_mul u.2 (sd r (by simp [hr])) (sd p (by simp)) (h1 r hr p (by simp))
  have h4:cmpF (mulF r.2 u.2) (mulF p.2 q.2) < 0:=by
   rcases List.mem_append.1 hu with hu|hu
   ·exact hC.lt_tr h3 (hlast u hu)
   ·simp at hu;subst hu;exact h3
  show cmpF (mulF r.2 u.2) (mulF p.2 q.2) ≠ 0
  omega)
 rw [prodL_snoc,vX,hfirst,List.map_append,vX]
 have hmid:coef cmpF (e.map fun q => (mP (p.1 * q.1),mulF p.2 q.2)) (mulF p.2 q.2) = 0:=kZ (fun z hz => by
  rw [List.mem_map] at hz
  obtain ⟨u,hu,rfl⟩:=hz
  have:=hlast u hu
  show cmpF (mulF p.2 u.2) (mulF p.2 q.2) ≠ 0
  omega)
 rw [hmid]
 show mP (0 + (0 + ((if cmpF (mulF p.2 q.2) (mulF p.2 q.2) = 0 then mP (p.1 * q.1) else 0) + 0))) = _
 rw [if_pos (hC.refl _)]
 unfold mP;omega
theorem nz_mem {κ:Type} {c:κ→κ→Int} (hc:Cmp c) {L:List (Int × κ)} {x:κ} (h:mP (coef c L x) ≠ 0):∃ q ∈ L,q.2 = x:=by
 by_cases hx:∃ q ∈ L,q.2 = x
 ·exact hx
 ·exfalso
  refine h ?_
  rw [kZ (fun q hq e => hx ⟨q,hq,hc.zero _ _ e⟩)];rfl
theorem prod_deg {d e:List (Int × List (List Int))} {p q:Int × List (List Int)} (hd:NfS cmpF (d ++ [p])) (he:NfS cmpF (e ++ [q])) (sd:SrtF (d ++ [p])) (se:SrtF (e ++ [q])) :
  ∃ r ∈ sumS cmpF (prodL (d ++ [p]) (e ++ [q])),qX r.2 = qX p.2 + qX q.2:=by
 have h:mP (coef cmpF (sumS cmpF (prodL (d ++ [p]) (e ++ [q]))) (mulF p.2 q.2)) ≠ 0:=by
  rw [sumS_coef jK,prod_top hd he sd se]
  exact prime_mul (hd.2 p (by simp)) (he.2 q (by simp))
 obtain ⟨r,h1,h2⟩:=nz_mem jK h
 exact ⟨r,h1,by rw [h2,xC]⟩
def cmpN:List (List Int)→List (List Int)→Int:=thenC (fun f => (f.length:Int)) (lexC cmpT)
theorem cmpN_eq (f g:List (List Int)):cmpN f g = if (f.length:Int) = g.length then lexC cmpT f g else (f.length:Int) - g.length:=rfl
theorem cmpF_N (f g:List (List Int)):cmpF f g = if (qX f:Int) = qX g then cmpN f g else (qX f:Int) - qX g:=rfl
end
section
theorem lexC_step {α:Type} {c:α→α→Int} {f g:List α} {k:Nat} (h1:k < f.length) (h2:k < g.length):lexC c (f.drop k) (g.drop k) = if c f[k] g[k] = 0 then lexC c (f.drop (k + 1)) (g.drop (k + 1)) else c f[k] g[k]:=by
 rw [List.drop_eq_getElem_cons h1,List.drop_eq_getElem_cons h2];rfl
theorem lexC_endL {α:Type} {c:α→α→Int} {f g:List α} {k:Nat} (h1:¬ k < f.length) (h2:k < g.length):lexC c (f.drop k) (g.drop k) = -1:=by
 rw [List.drop_eq_nil_of_le (Nat.not_lt.1 h1),List.drop_eq_getElem_cons h2];rfl
theorem lexC_endR {α:Type} {c:α→α→Int} {f g:List α} {k:Nat} (h1:k < f.length) (h2:¬ k < g.length):lexC c (f.drop k) (g.drop k) = 1:=by
 rw [List.drop_eq_getElem_cons h1,List.drop_eq_nil_of_le (Nat.not_lt.1 h2)];rfl
theorem lexC_end0 {α:Type} {c:α→α→Int} {f g:List α} {k:Nat} (h1:¬ k < f.length) (h2:¬ k < g.length):lexC c (f.drop k) (g.drop k) = 0:=by
 rw [List.drop_eq_nil_of_le (Nat.not_lt.1 h1),List.drop_eq_nil_of_le (Nat.not_lt.1 h2)];rfl
theorem c_CompareFunc (v1 v2:Value) (f g:List (List Int)) (w:World) (h1:Rd (RS (RS RI)) w [v1] f) (h2:Rd (RS (RS RI)) w [v2] g) :
  Calls Tryz.prog 181 #[v1,v2,.func (.func 119) #[] #[]] w (RetS w (.int .i64 (lexC cmpT f g))):=by
 obtain ⟨oa,ca,L1⟩:=h1.lists
 obtain ⟨ob,cb,L2⟩:=h2.lists
 obtain rfl:=L1.val
 obtain rfl:=L2.val
 have m1:=L1.le;have m2:=L1.capLe;have m3:=L2.le;have m4:=L2.capLe
 unfold maxLen at m2 m4
 have HL1:=Lib.hid L1
 have HL2:=Lib.hid L2
 clear L1 L2 h1 h2
 go_enter Tryz.func181,Tryz.ntmps181
 go_wp2_with fail
 go_loop [13] (fun i => ∃ k:Nat,k ≤ f.length∧k ≤ g.length∧i = .int .i64 k∧lexC cmpT f g = lexC cmpT (f.drop k) (g.drop k)) (fun i => f.length - (intOf i).toNat)
 case atStart => exact ⟨0,Nat.zero_le _,Nat.zero_le _,rfl,by simp⟩
 case round =>
  obtain ⟨k,hk,hk2,rfl,he⟩:=hrel
  have He:=Lib.hid he
  clear he
  by_cases hlt:k < f.length
  ·obtain ⟨b1,o1,rfl,hb1,hc1⟩:=HL1.out.get hlt
   obtain ⟨oi,ci,g1,hrd1,q1,q2⟩:=hc1 k hlt
   clear hc1
   by_cases hlt2:k < g.length
   ·obtain ⟨b2,o2,rfl,hb2,hc2⟩:=HL2.out.get hlt2
    obtain ⟨oj,cj,g2,hrd2,q3,q4⟩:=hc2 k hlt2
    clear hc2
    have hs:=lexC_step (c:=cmpT) hlt hlt2
    by_cases h0:cmpT f[k] g[k] = 0
    ·rw [if_pos h0] at hs
     have hcall:=qA0 _ _ _ _ w hrd1 hrd2
     rw [h0] at hcall
     have HC:=Lib.hid hcall
     have Hs:=Lib.hid hs
     obtain ⟨x1,hx1⟩:∃ x,x = f[k].length:=⟨_,rfl⟩
     obtain ⟨x2,hx2⟩:∃ x,x = g[k].length:=⟨_,rfl⟩
     rw [← hx1] at g1 q1 HC
     rw [← hx2] at g2 q3 HC
     clear hs h0 hcall hrd1 hrd2 hx1 hx2
     go_wp2_with (go_at_call 119;refine HC.out.mono ?_;rintro e w' ⟨rfl,rfl⟩)
     go_round
     case rel => exact ⟨k + 1,by omega,by omega,by go_num,by rw [He.out,Hs.out]⟩
     case measure => simp [intOf];omega
    ·rw [if_neg h0] at hs
     have hcall:=qA0 _ _ _ _ w hrd1 hrd2
     have hb:(cmpT f[k] g[k] != 0) = true:=by simp [h0]
     obtain ⟨z,hz⟩:∃ z,z = cmpT f[k] g[k]:=⟨_,rfl⟩
     rw [← hz] at hcall hb hs
     have HC:=Lib.hid hcall
     have Hs:=Lib.hid hs
     obtain ⟨x1,hx1⟩:∃ x,x = f[k].length:=⟨_,rfl⟩
     obtain ⟨x2,hx2⟩:∃ x,x = g[k].length:=⟨_,rfl⟩
     rw [← hx1] at g1 q1 HC
     rw [← hx2] at g2 q3 HC
     clear hs h0 hcall hrd1 hrd2 hx1 hx2 hz
     go_wp2_with (go_at_call 119;refine HC.out.mono ?_;rintro e w' ⟨rfl,rfl⟩)
     go_ret
     exact ⟨by (rw [He.out,Hs.out] <;> rfl),rfl⟩
   ·have HE:=Lib.hid (lexC_endR (c:=cmpT) hlt hlt2)
    go_wp2_with fail
    go_ret
    exact ⟨by (rw [He.out,HE.out] <;> rfl),rfl⟩
  ·by_cases hlt2:k < g.length
   ·have HE:=Lib.hid (lexC_endL (c:=cmpT) hlt hlt2)
    go_wp2_with fail
    go_ret
    exact ⟨by (rw [He.out,HE.out] <;> rfl),rfl⟩
   ·have HE:=Lib.hid (lexC_end0 (c:=cmpT) hlt hlt2)
    go_wp2_with fail
    go_ret
    exact ⟨by (rw [He.out,HE.out] <;> rfl),rfl⟩
theorem c_compareTrunks (v1 v2:Value) (f g:List (List Int)) (w:World) (h1:Rd (RS (RS RI)) w [v1] f) (h2:Rd (RS (RS RI)) w [v2] g) :
  Calls Tryz.prog 121 #[v1,v2] w (RetS w (.int .i64 (cmpN f g))):=by
 obtain ⟨oa,c1,e1,m1,m2⟩:=h1.val
 obtain ⟨ob,c2,e2,m3,m4⟩:=h2.val
 subst e1;subst e2
 unfold maxLen at m2 m4
 rw [cmpN_eq]
 by_cases hl:f.length = g.length
 ·have hlb:((f.length:Int) != (g.length:Int)) = false:=by simp [hl]
  have hcall:=c_CompareFunc _ _ _ _ w h1 h2
  rw [if_pos (by rw [hl])]
  have HC:=Lib.hid hcall
  clear hl hcall h1 h2
  go_enter Tryz.func121,Tryz.ntmps121
  go_wp2_with (go_at_call 181;refine HC.out.mono ?_;rintro e w' ⟨rfl,rfl⟩)
  go_ret
  exact ⟨rfl,rfl⟩
 ·have hlb:((f.length:Int) != (g.length:Int)) = true:=by simp;omega
  have hw:IntKind.i64.wrap ((f.length:Int) - (g.length:Int)) = (f.length:Int) - (g.length:Int):=IntWalk.i64_in _ (by omega)
  rw [if_neg (by omega)]
  clear h1 h2
  go_enter Tryz.func121,Tryz.ntmps121
  go_wp2_with fail
  go_ret
  exact ⟨rfl,rfl⟩
theorem jI0 (v1 v2:Value) (f g:List (List Int)) (w:World) (h1:Rd (RS (RS RI)) w [v1] f) (h2:Rd (RS (RS RI)) w [v2] g) (hf:qX f ≤ 1000000000000000000) (hg:qX g ≤ 1000000000000000000) :
  Calls Tryz.prog 87 #[v1,v2] w (RetS w (.int .i64 (cmpF f g))):=by
 have hn1:=qR0 _ _ w h1
 have hn2:=qR0 _ _ w h2
 rw [xE f hf] at hn1
 rw [xE g hg] at hn2
 have ht:=c_compareTrunks _ _ _ _ w h1 h2
 rw [cmpF_N]
 obtain ⟨p,hp⟩:∃ p,p = qX f:=⟨_,rfl⟩
 obtain ⟨q,hq⟩:∃ q,q = qX g:=⟨_,rfl⟩
 rw [← hp] at hf hn1 ⊢
 rw [← hq] at hg hn2 ⊢
 have hw:IntKind.i64.wrap ((p:Int) - (q:Int)) = (p:Int) - (q:Int):=IntWalk.i64_in _ (by omega)
 obtain ⟨Rl,hR⟩:∃ R:Value→Int→Prop,∀ v n,R v n ↔ Calls Tryz.prog 88 #[v] w (RetS w (.int .i64 n)):=⟨_,fun _ _ => Iff.rfl⟩
 have r1:Rl v1 p:=(hR _ _).2 hn1
 have r2:Rl v2 q:=(hR _ _).2 hn2
 have HN:Hid (∀ v n,Rl v n→Calls Tryz.prog 88 #[v] w (RetS w (.int .i64 n))):=Lib.hid (fun v n => (hR v n).1)
 have H3:=Lib.hid ht
 clear hp hq h1 h2 hn1 hn2 ht hR
 by_cases hl:(p:Int) = q
 ·have hlb:(((p:Int) - (q:Int)) != 0) = false:=by rw [hl];simp
  rw [if_pos hl]
  clear hl
  go_enter Tryz.func87,Tryz.ntmps87
  go_wp2_with (first|(go_at_call 88;refine (HN.out _ _ (by assumption)).mono ?_;rintro e w' ⟨rfl,rfl⟩)|(go_at_call 121;refine H3.out.mono ?_;rintro e w' ⟨rfl,rfl⟩))
  go_ret
  exact ⟨rfl,rfl⟩
 ·have hlb:(((p:Int) - (q:Int)) != 0) = true:=by simp;omega
  rw [if_neg hl]
  clear hl
  go_enter Tryz.func87,Tryz.ntmps87
  go_wp2_with (go_at_call 88;refine (HN.out _ _ (by assumption)).mono ?_;rintro e w' ⟨rfl,rfl⟩)
  go_ret
  exact ⟨rfl,rfl⟩
theorem lexC_in64:∀ (f g:List (List Int)),(∀ t ∈ f,t.length ≤ maxLen)→(∀ t ∈ g,t.length ≤ maxLen)→qA (lexC cmpT f g):=by
 intro f
 induction f with
 | nil => intro g _ _;cases g <;> (unfold lexC qA;omega)
 | cons x xs ih => intro g h3 h4;cases g with
  | nil => unfold lexC qA;omega
  | cons y bs =>
   unfold lexC
   split
   ·exact ih bs (fun t ht => h3 t (by simp [ht])) (fun t ht => h4 t (by simp [ht]))
   ·exact cmpT_in64 (h3 x (by simp)) (h4 y (by simp))
theorem cmpF_in64 {f g:List (List Int)} (hf:qX f ≤ 1000000000000000000) (hg:qX g ≤ 1000000000000000000) (h1:f.length ≤ maxLen) (h2:g.length ≤ maxLen) (h3:∀ t ∈ f,t.length ≤ maxLen) (h4:∀ t ∈ g,t.length ≤ maxLen):qA (cmpF f g):=by
 rw [cmpF_N,cmpN_eq]
 unfold maxLen at h1 h2
 split
 ·split
  ·exact lexC_in64 f g h3 h4
  ·unfold qA;omega
 ·unfold qA;omega
end
section
abbrev Elt:=List (Int × List (List Int))
def canT (t:List Int):Bool:=lev8 t && decide (canon t = t)
def okT (f:List (List Int)) (i:Nat):Bool:=canT (f.getD i []) && (decide (i = 0) || decide (cmpT (f.getD (i - 1) []) (f.getD i []) ≤ 0))
def forB (f:List (List Int)):Bool:=decide (qX f ≤ 8) && (List.range f.length).all (okT f)
def okP (e:Elt) (i:Nat):Bool :=
 decide (1 ≤ (e.getD i (0,[])).1) && decide ((e.getD i (0,[])).1 < 10007) && forB (e.getD i (0,[])).2 && (decide (i = 0) || decide (cmpF (e.getD (i - 1) (0,[])).2 (e.getD i (0,[])).2 < 0))
def elB (e:Elt):Bool:=decide (e.length ≤ 300) && (List.range e.length).all (okP e)
theorem kO {n:Nat} {p:Nat→Bool}:(List.range n).all p = true ↔ ∀ i < n,p i = true:=by
 rw [List.all_eq_true]
 exact ⟨fun h i hi => h i (List.mem_range.2 hi),fun h i hi => h i (List.mem_range.1 hi)⟩
theorem xT {n i:Nat} {p:Nat→Bool} (hi:i < n) (h:p i = false):(List.range n).all p = false:=by
 rcases hq:(List.range n).all p with _|_
 ·rfl
 ·rw [kO.1 hq i hi] at h;cases h
theorem qM0 {α:Type} {r:α→α→Prop} (ht:∀ a b d,r a b→r b d→r a d):∀ {l:List α},(∀ i (h:i + 1 < l.length),r l[i] l[i + 1])→l.Pairwise r
 | [],_ => List.Pairwise.nil
 | [a],_ => List.pairwise_singleton _ _
 | a :: b :: l,h => by
  have ih:=qM0 ht (l:=b :: l) (fun i hi => h (i + 1) (by simp at hi ⊢;omega))
  refine List.pairwise_cons.2 ⟨fun x hx => ?_,ih⟩
  have h0:r a b:=h 0 (by simp)
  rcases List.mem_cons.1 hx with rfl|hx
  ·exact h0
  ·exact ht a b x h0 ((List.pairwise_cons.1 ih).1 x hx)
theorem yV {α:Type} {l:List α} {d:α} {i:Nat} (h:i < l.length):l.getD i d = l[i]:=by
 rw [List.getD_eq_getElem?_getD,List.getElem?_eq_getElem h];rfl
theorem kD {f:List (List Int)} (h:forB f = true):qX f ≤ 8∧(∀ t ∈ f,canT t = true)∧f.Pairwise fun a b => cmpT a b ≤ 0:=by
 unfold forB at h
 rw [Bool.and_eq_true,kO] at h
 refine ⟨of_decide_eq_true h.1,fun t ht => ?_,qM0 (fun a b d => xK.trans a b d) (fun i hi => ?_)⟩
 ·obtain ⟨i,hi,rfl⟩:=List.getElem_of_mem ht
  have:=h.2 i hi
  unfold okT at this
  rw [Bool.and_eq_true,yV hi] at this
  exact this.1
 ·have:=h.2 (i + 1) hi
  unfold okT at this
  rw [Bool.and_eq_true,Bool.or_eq_true,yV hi,Nat.add_sub_cancel,yV (show i < f.length by omega)] at this
  rcases this.2 with h1|h1
  ·have:=of_decide_eq_true h1;omega
  ·exact of_decide_eq_true h1
theorem yF {e:Elt} (h:elB e = true):e.length ≤ 300∧NfS cmpF e∧SrtF e∧∀ p ∈ e,forB p.2 = true:=by
 unfold elB at h
 rw [Bool.and_eq_true,kO] at h
 have hall:∀ p ∈ e,(1 ≤ p.1∧p.1 < 10007)∧forB p.2 = true:=fun p hp => by
  obtain ⟨i,hi,rfl⟩:=List.getElem_of_mem hp
  have:=h.2 i hi
  unfold okP at this
  rw [yV hi] at this
  simp only [Bool.and_eq_true,decide_eq_true_eq] at this
  exact ⟨this.1.1,this.1.2⟩
 refine ⟨of_decide_eq_true h.1,⟨qM0 (r:=fun p q:Int × List (List Int) => cmpF p.2 q.2 < 0) (fun a b d h1 h2 => jK.lt_tr h1 h2) (fun i hi => ?_),fun p hp => (hall p hp).1⟩,fun p hp => (kD (hall p hp).2).2.2,fun p hp => (hall p hp).2⟩
 have:=h.2 (i + 1) hi
 unfold okP at this
 rw [yV hi,Nat.add_sub_cancel,yV (show i < e.length by omega)] at this
 simp only [Bool.and_eq_true,Bool.or_eq_true,decide_eq_true_eq] at this
 rcases this.2 with h1|h1
 ·omega
 ·exact h1
theorem wH {κ:Type} {c:κ→κ→Int} {k:Int} {x:κ} (hk:k ≠ 0) (M:List (Int × κ)):∀ {L:List (Int × κ)},(∀ q ∈ L,0 < c x q.2)→putS c (L ++ M) k x = L ++ putS c M k x
 | [],_ => rfl
 | (a,y) :: L,h => by
  have h0:0 < c x y:=h (a,y) (by simp)
  show putS c ((a,y) :: (L ++ M)) k x = _
  conv => lhs;unfold putS
  rw [if_neg hk,if_neg (by omega),if_neg (by omega),wH hk M (fun q hq => h q (by simp [hq]))]
  rfl
theorem putS_zero {κ:Type} {c:κ→κ→Int} {x:κ} (L:List (Int × κ)):putS c L 0 x = L:=by
 cases L <;> simp [putS]
def degE (e:Elt):Int:=match e.getLast? with
 | none => -1
 | some p => qX p.2
def degOf (e:Elt):Int × Int:=if elB e = true then (degE e,0) else (0,1)
def limS (L:Elt):Elt × Int:=if L.length ≤ 300∧∀ p ∈ L,qX p.2 ≤ 8 then (L,0) else ([],3)
def addOf (d e:Elt):Elt × Int:=if (elB d && elB e) = true then limS (sumS cmpF (d ++ e)) else ([],1)
def sclOf (e:Elt) (k:Int):Elt × Int:=if elB e = true then (if inR k 0 10006 = true then (sumS cmpF (e.map fun p => (mP (p.1 * k),p.2)),0) else ([],2)) else ([],1)
def timOf (d e:Elt):Elt × Int:=if (elB d && elB e) = true then limS (sumS cmpF (prodL d e)) else ([],1)
end
section
theorem forB_tree' {f:List (List Int)} (h:forB f = true):(∀ t ∈ f,1 ≤ t.length)∧qX f ≤ 8:=by
 obtain ⟨h1,h2,_⟩:=kD h
 refine ⟨fun t ht => ?_,h1⟩
 have:=h2 t ht
 unfold canT at this
 rw [Bool.and_eq_true] at this
 exact (lev8_lev this.1).pos
theorem len_le_sum1:∀ f:List (List Int),(∀ t ∈ f,1 ≤ t.length)→f.length ≤ qX f
 | [],_ => by simp
 | b :: bs,h => by
  have ih:=len_le_sum1 bs (fun c hc => h c (by simp [hc]))
  have:=h b (by simp)
  simp only [qX,List.map_cons,List.sum_cons,List.length_cons] at ih ⊢
  omega
theorem forB_short {f:List (List Int)} (h:forB f = true):f.length ≤ 8:=by
 obtain ⟨h1,h2⟩:=forB_tree' h
 have:=len_le_sum1 f h1
 omega
end
end Go.Proofs.YtedgfkpfhonlpaaGreat
