/- Lemmas (15). -/
import Derived.Lib.AppendZeros
import Derived.Test.YtedgfkpfhonlpaaGreatZA0
import Derived.Test.YtedgfkpfhonlpaaGreatZA1
import Derived.Test.YtedgfkpfhonlpaaGreatZA5
import Derived.Test.YtedgfkpfhonlpaaGreatZA6
import Derived.Test.YtedgfkpfhonlpaaGreatZA7
import Derived.Test.YtedgfkpfhonlpaaGreatZA8
import Derived.Test.YtedgfkpfhonlpaaGreatZA9
import Derived.Test.YtedgfkpfhonlpaaGreatZA11
import Derived.Test.YtedgfkpfhonlpaaGreatZA12
import Derived.Test.YtedgfkpfhonlpaaGreatZA13
import Derived.Test.YtedgfkpfhonlpaaGreatZA14
set_option linter.unusedSimpArgs false
set_option linter.unusedVariables false
namespace Go.Proofs.YtedgfkpfhonlpaaGreat
open Go.RowKit
def drw0 (G:(Nat × Int)→List Res × (Nat × Int)) (s:Nat × Int):List (List D)→Option (List Res × (Nat × Int))
 | [] => some (G s)
 | _ => none
theorem drw0_eq {code:List Int} {G:(Nat × Int)→List Res × (Nat × Int)} {s:Nat × Int} (h:s.1 ≤ code.length):drwG code (drw0 G) 3 [srcD code s] [] = some ((G s).1,[srcD code (G s).2]):=by
 rw [drwG_eq h];rfl
theorem drw0_of {P:Program} {f:FuncId} {code:List Int} {G:(Nat × Int)→List Res × (Nat × Int)} (h:∀ s,s.1 ≤ code.length→AEp P f true 3 [srcD code s] [] (fun r x => r = (G s).1∧x = [srcD code (G s).2])):xD P f code (drw0 G):=by
 intro s post rs s' hs hp
 unfold drw0 at hp
 split at hp
 ·have e:=Option.some.inj hp
  have e1:rs = (G s).1:=by rw [e]
  have e2:s' = (G s).2:=by rw [e]
  subst e1;subst e2
  exact h s hs
 ·cases hp
def drw2 (G:(Nat × Int)→Int→Int→List Res × (Nat × Int)) (s:Nat × Int):List (List D)→Option (List Res × (Nat × Int))
 | [[.int a],[.int m]] => if (0 ≤ a∧a ≤ 10)∧0 ≤ m∧m ≤ 8 then some (G s a m) else none
 | _ => none
theorem drw2_eq {code:List Int} {G:(Nat × Int)→Int→Int→List Res × (Nat × Int)} {s:Nat × Int} (h:s.1 ≤ code.length) {a m:Int} (hm:(0 ≤ a∧a ≤ 10)∧0 ≤ m∧m ≤ 8):drwG code (drw2 G) 3 [srcD code s] [[.int a],[.int m]] = some ((G s a m).1,[srcD code (G s a m).2]):=by
 rw [drwG_eq h]
 show Option.map _ (if (0 ≤ a∧a ≤ 10)∧0 ≤ m∧m ≤ 8 then some (G s a m) else none) = _
 rw [if_pos hm];rfl
theorem drw2_of {P:Program} {f:FuncId} {code:List Int} {G:(Nat × Int)→Int→Int→List Res × (Nat × Int)} (h:∀ s a m,s.1 ≤ code.length→0 ≤ a→a ≤ 10→0 ≤ m→m ≤ 8→AEp P f true 3 [srcD code s] [[.int a],[.int m]] (fun r x => r = (G s a m).1∧x = [srcD code (G s a m).2])):xD P f code (drw2 G):=by
 intro s post rs s' hs hp
 unfold drw2 at hp
 split at hp
 ·rename_i a m
  split at hp
  ·rename_i hm
   have e:=Option.some.inj hp
   have e1:rs = (G s a m).1:=by rw [e]
   have e2:s' = (G s a m).2:=by rw [e]
   subst e1;subst e2
   exact h s a m hs hm.1.1 hm.1.2 hm.2.1 hm.2.2
  ·cases hp
 ·cases hp
def fracP (p q:Int):Int:=mP (mP p * powG 14 (mP q) 10005 1)
theorem fracP_bd (p q:Int):0 ≤ fracP p q∧fracP p q < 10007:=mP_bdW _
theorem a_l01FracG (p q:Int) (hp:-1000 ≤ p∧p ≤ 1000) (hq:-1000 ≤ q∧q ≤ 1000):AFn Tryz.prog 232 [eI p,eI q] (· = [.val (.int (fracP p q))]):=by
 have m1:=a_l01Mod p
 have m2:=a_l01Mod q
 have hb:=mP_bdW q
 have hp2:=mP_bdW p
 have hv:=powG_bd 14 (mP q) 10005 1 (by decide)
 have hbb:=mul_bdW hp2 hv
 have m3:=a_l01Inv (mP q) hb
 have m4:=a_l01Mul (mP p) (powG 14 (mP q) 10005 1) (by omega)
 unfold fracP
 simp only [eI] at m1 m2 m3 m4
 refine AFn.of_runs (qQ 11) Tryz.func232 rfl rfl rfl gz ?_
 have hres:Tryz.f232.results.toList = [.tmp 4]:=rfl
 have hrts:Tryz.f232.resultTypes.toList = [2]:=rfl
 simp only [qU,qK,eL,eI,eLL,eB,Nat.zero_add,Nat.reduceAdd]
 intro M
 refine qJ.of ?_
 refine gw179 ?_
 exact gw8
def kU:List Int:=[0,1,0,1,10006,2]
def numF (code:List Int) (s:Nat × Int):Int × (Nat × Int) :=
 let c:=nxtF code s 5
 if c.1 = 0 then nxtF code c.2 10007 else if c.1 = 1 then pickF code c.2 kU else
  let a:=nxtF code c.2 15
  let b:=nxtF code a.2 12
  (fracP (a.1 - 7) (1 + b.1),b.2)
theorem numF_ok {code:List Int} (hc:jZ code) {s:Nat × Int} (hs:s.1 ≤ code.length):(0 ≤ (numF code s).1∧(numF code s).1 < 10007)∧(numF code s).2.1 ≤ code.length:=by
 unfold numF
 obtain ⟨c,hcd⟩:∃ c,c = nxtF code s 5:=⟨_,rfl⟩
 have h1:=jK (n:=5) hs
 rw [← hcd] at h1 ⊢
 simp only
 split
 ·have hb:=jO hc c.2 10007
  exact ⟨by omega,jK h1⟩
 ·split
  ·obtain ⟨h2,h3⟩:=pickF_ok hc h1 (l:=kU) (by decide)
   refine ⟨?_,h3⟩
   generalize (pickF code c.2 kU).1 = x at h2
   unfold kU at h2
   simp only [List.mem_cons,List.not_mem_nil,or_false] at h2
   omega
  ·exact ⟨fracP_bd _ _,jK (jK h1)⟩
def numG (code:List Int) (s:Nat × Int):List Res × (Nat × Int):=([.val (.int (numF code s).1)],(numF code s).2)
set_option maxRecDepth 20000 in
set_option maxHeartbeats 16000000 in
theorem p_l01Number {code:List Int} (hc:jZ code) (hl:code.length ≤ 1000000000):xD Tryz.prog 199 code (drw0 (numG code)):=by
 refine drw0_of fun s hs => ?_
 have hpin:=kO hc hl
 have hpk:=(p_l01Pick hc hl).ok
 have hdr:=yD code s 5 hs
 have hbd:=jO hc s 5
 have hat:=jK (n:=5) hs
 unfold numG numF
 obtain ⟨⟨c,s1⟩,hp⟩:∃ p,p = nxtF code s 5:=⟨_,rfl⟩
 rw [← hp] at hdr hbd hat ⊢
 simp only [eI] at hdr hbd hat ⊢
 by_cases c0:c = 0
 ·subst c0
  have hd0:=yD code s1 10007 hat
  obtain ⟨⟨x,s2⟩,hp⟩:∃ p,p = nxtF code s1 10007:=⟨_,rfl⟩
  rw [← hp] at hd0 ⊢
  simp only [eI,if_true] at hd0 ⊢
  refine AEp.of_runs (qQ 21) Tryz.func199 rfl rfl rfl (fun _ => rfl) gz ?_
  have hres:Tryz.f199.results.toList = [.tmp 2]:=rfl
  have hrts:Tryz.f199.resultTypes.toList = [2]:=rfl
  simp only [List.length_cons,List.length_nil,jD,if_true,qU,qK,eL,eI,eLL,eB,Nat.zero_add,Nat.reduceAdd]
  intro M og cap
  refine qJ.of ?_
  refine gw180 (Yp hdr hd0) ?_
  exact gw154
 have e0:(c == 0) = false:=by simp [c0]
 by_cases c1:c = 1
 ·subst c1
  have hd0:=drwL_eq (G:=pickG code) hat (l:=kU) (by decide) (by decide)
  have e2:pickG code s1 kU = ([.val (.int (pickF code s1 kU).1)],(pickF code s1 kU).2):=rfl
  rw [e2] at hd0
  rw [if_neg c0,if_pos rfl]
  obtain ⟨⟨x,s2⟩,hp⟩:∃ p,p = pickF code s1 kU:=⟨_,rfl⟩
  rw [← hp] at hd0 ⊢
  simp only [kU,List.map_cons,List.map_nil,eI] at hd0 ⊢
  refine AEp.of_runs (qQ 21) Tryz.func199 rfl rfl rfl (fun _ => rfl) gz ?_
  have hres:Tryz.f199.results.toList = [.tmp 2]:=rfl
  have hrts:Tryz.f199.resultTypes.toList = [2]:=rfl
  simp only [List.length_cons,List.length_nil,jD,if_true,qU,qK,eL,eI,eLL,eB,Nat.zero_add,Nat.reduceAdd]
  intro M og cap
  refine qJ.of ?_
  refine gw180 (Yp hdr e0) ?_
  ((refine gw181 ?_);(with_reducible refine qJ.regCut (qQ 21) Tab.none 2 (s1:=?_) ?_ ?_);rotate_left 1;(focus ((with_reducible refine QW ?_);simp only [Zg,seval,if_true,if_false,reduceCtorEq,Nat.reduceEqDiff];with_reducible rfl));simp only [List.toList_toArray,List.drop_succ_cons,List.drop_zero])
  refine qV.frzs [12] ?_
  (refine qV.opsT (qQ 21) (T:=Tab.none.pin 147 (drwE code (drwL (pickG code))) hpk) (s':=?_) ?_ ?_;rotate_left 1;focus (simp only [Zg,seval,if_true,if_false,reduceCtorEq,Nat.reduceEqDiff,hd0,drwE];with_reducible rfl))
  refine gw7 ?_
  exact gw154
 have e1:(c == 1) = false:=by simp [c1]
 rw [if_neg c0,if_neg c1]
 have hd0:=yD code s1 15 hat
 have hb0:=jO hc s1 15
 have ha0:=jK (n:=15) hat
 obtain ⟨⟨x,s2⟩,hp⟩:∃ p,p = nxtF code s1 15:=⟨_,rfl⟩
 rw [← hp] at hd0 hb0 ha0 ⊢
 simp only [eI] at hd0 hb0 ha0 ⊢
 have hd1:=yD code s2 12 ha0
 have hb1:=jO hc s2 12
 obtain ⟨⟨y,s3⟩,hp⟩:∃ p,p = nxtF code s2 12:=⟨_,rfl⟩
 rw [← hp] at hd1 hb1 ⊢
 simp only [eI] at hd1 hb1 ⊢
 have hfr:=a_l01FracG (x - 7) (1 + y) (by omega) (by omega)
 have w1:w64 (x - 7) = x - 7:=qM (by omega)
 have w2:w64 (1 + y) = 1 + y:=qM (by omega)
 simp only [eI] at hfr
 refine AEp.of_runs (qQ 21) Tryz.func199 rfl rfl rfl (fun _ => rfl) gz ?_
 have hres:Tryz.f199.results.toList = [.tmp 2]:=rfl
 have hrts:Tryz.f199.resultTypes.toList = [2]:=rfl
 simp only [List.length_cons,List.length_nil,jD,if_true,qU,qK,eL,eI,eLL,eB,Nat.zero_add,Nat.reduceAdd]
 intro M og cap
 refine qJ.of ?_
 refine gw182 (Yp hdr (Yp hd0 (Yp hd1 (Yp e0 (Yp e1 (Yp w1 w2)))))) ?_
 exact gw154
def kP (code:List Int) (most:Int):Nat→(Nat × Int)→Elt→Elt × (Nat × Int)
 | 0,s,e => (e,s)
 | k + 1,s,e =>
  let a:=numF code s
  let f:=yK code a.2 most
  kP code most k f.2 (putS cmpF e a.1 f.1)
def xR (code:List Int) (s:Nat × Int) (parts most:Int):Elt × (Nat × Int) :=
 let n:=nxtF code s (parts + 1)
 kP code most n.1.toNat n.2 []
structure EOk (n m:Nat) (e:Elt):Prop where
 len:e.length ≤ n
 ok:∀ q ∈ e,(1 ≤ q.1∧q.1 < 10007)∧FOk m q.2∧q.2.length ≤ m
theorem EOk.okE {n m:Nat} (hm:m ≤ 8) {e:Elt} (h:EOk n m e):∀ q ∈ e,(1 ≤ q.1∧q.1 < 10007)∧SmF q.2:=fun q hq => by
 obtain ⟨h1,h2,h3⟩:=h.ok q hq
 have:=h2.sum
 exact ⟨h1,by omega,by omega⟩
theorem putS_len' (c:List (List Int)→List (List Int)→Int) (k:Int) (x:List (List Int)):∀ (e:Elt),(putS c e k x).length ≤ e.length + 1
 | [] => by unfold putS;split <;> simp
 | (a,y) :: L => by
  have ih:=putS_len' c k x L
  unfold putS
  repeat' split
  all_goals simp only [List.length_cons] at ih ⊢
  all_goals omega
theorem putS_coefs {k:Int} {x:List (List Int)} (hk:0 ≤ k∧k < 10007):∀ {L:Elt},(∀ q ∈ L,1 ≤ q.1∧q.1 < 10007)→∀ q ∈ putS cmpF L k x,1 ≤ q.1∧q.1 < 10007
 | [],_ => by
  unfold putS
  split
  ·exact fun q hq => nomatch hq
  ·intro q hq
   rw [List.mem_singleton] at hq;subst hq
   simp only;omega
 | (a,y) :: L,he => by
  have ha:=he (a,y) (by simp)
  have hL:∀ q ∈ L,1 ≤ q.1∧q.1 < 10007:=fun q hq => he q (by simp [hq])
  unfold putS
  split
  ·exact he
  ·split
   ·intro q hq
    rcases List.mem_cons.1 hq with rfl|hq
    ·simp only;omega
    ·exact he q hq
   ·split
    ·split
     ·exact hL
     ·intro q hq
      rcases List.mem_cons.1 hq with rfl|hq
      ·have:=xC (a + k);simp only;omega
      ·exact hL q hq
    ·intro q hq
     rcases List.mem_cons.1 hq with rfl|hq
     ·exact ha
     ·exact putS_coefs hk hL q hq
theorem EOk.put {n m:Nat} {e:Elt} (h:EOk n m e) {k:Int} (hk:0 ≤ k∧k < 10007) {f:List (List Int)} (hf:FOk m f):EOk (n + 1) m (putS cmpF e k f):=by
 refine ⟨Nat.le_trans (putS_len' cmpF k f e) (by have:=h.len;omega),fun q hq => ⟨putS_coefs hk (fun q hq => (h.ok q hq).1) q hq,?_⟩⟩
 have key:FOk m q.2:=by
  rcases putS_mem e k f hq with h1|⟨p,h1,h2⟩
  ·rw [h1];exact hf
  ·rw [← h2];exact (h.ok p h1).2.1
 exact ⟨key,Nat.le_trans (wV key.lev) key.sum⟩
theorem drawElN_ok {code:List Int} (hc:jZ code) {most:Int}:∀ (k:Nat) {s:Nat × Int} {e:Elt} {n:Nat},EOk n most.toNat e→s.1 ≤ code.length→EOk (n + k) most.toNat (kP code most k s e).1∧(kP code most k s e).2.1 ≤ code.length
 | 0,_,_,_,h,hs => ⟨h,hs⟩
 | k + 1,s,e,n,h,hs => by
  obtain ⟨h1,h2⟩:=numF_ok hc hs
  obtain ⟨h3,h4⟩:=jZ0 hc (m:=most) h2
  have:=drawElN_ok hc (most:=most) k (h.put h1 h3) h4
  rw [show n + (k + 1) = n + 1 + k by omega]
  exact this
theorem drawElF_ok {code:List Int} (hc:jZ code) {s:Nat × Int} {parts most:Int} (hs:s.1 ≤ code.length) (hp:0 ≤ parts):EOk parts.toNat most.toNat (xR code s parts most).1∧(xR code s parts most).2.1 ≤ code.length:=by
 have hb:=jO hc s (parts + 1)
 have h:=drawElN_ok hc (most:=most) (nxtF code s (parts + 1)).1.toNat (s:=(nxtF code s (parts + 1)).2) (e:=[]) (n:=0) ⟨Nat.le_refl _,fun q hq => nomatch hq⟩ (jK hs)
 refine ⟨⟨Nat.le_trans h.1.len (by omega),h.1.ok⟩,h.2⟩
def drawElG (code:List Int) (s:Nat × Int) (parts most:Int):List Res × (Nat × Int):=([.own 2 ((xR code s parts most).1.map ePt) false],(xR code s parts most).2)
set_option maxRecDepth 20000 in
set_option maxHeartbeats 16000000 in
theorem p_l06Draw {code:List Int} (hc:jZ code) (hl:code.length ≤ 1000000000):xD Tryz.prog 146 code (drw2 (drawElG code)):=by
 refine drw2_of fun s parts most hs hp0 hp1 hm0 hm1 => ?_
 have hpin:=kO hc hl
 have hnm:=(p_l01Number hc hl).ok
 have hdf:=(yT0 hc hl).ok
 have hdr:=yD code s (parts + 1) hs
 have hbd:=jO hc s (parts + 1)
 have hat:=jK (n:=parts + 1) hs
 have w0:w64 (parts + 1) = parts + 1:=qM (by omega)
 unfold drawElG xR
 obtain ⟨⟨kk,s1⟩,hp⟩:∃ p,p = nxtF code s (parts + 1):=⟨_,rfl⟩
 rw [← hp] at hdr hbd hat ⊢
 simp only at hdr hbd hat ⊢
 obtain ⟨k,rfl⟩:∃ k:Nat,kk = k:=⟨kk.toNat,by omega⟩
 rw [Int.toNat_natCast]
 have hk:k ≤ 10:=by omega
 simp only [eI] at hdr
 refine AEp.of_runs (qQ 26) Tryz.func146 rfl rfl rfl (fun _ => rfl) gz ?_
 have hres:Tryz.f146.results.toList = [.tmp 6]:=rfl
 have hrts:Tryz.f146.resultTypes.toList = [50]:=rfl
 simp only [List.length_cons,List.length_nil,jD,if_true,qU,qK,eL,eI,eLL,eB,Nat.zero_add,Nat.reduceAdd]
 intro M og cap
 refine qJ.of ?_
 repeat' (first|with_reducible (first|refine Q1 ?_|refine Q2 ?_|refine Q3 ?_|refine Q4 ?_|refine Q5 ?_|refine Q6 ?_|refine Q7 ?_|refine Q8 ?_|refine Q9 ?_|refine Qa ?_|refine Qb ?_|refine Qc ?_|refine Qd ?_|refine Qe ?_|refine Qf ?_|refine QO ?_|refine QV 9 ?_|refine QY 9 ?_)|with_reducible ((first|apply QS (qQ 26) (Tab.none.pin 82 (nxtE code) hpin)|apply QC);refine QW ?_;simp only [Zg,seval,if_true,if_false,reduceCtorEq,Nat.reduceEqDiff,hdr,nxtE,w0];rfl))
 refine qJ.loop (β:=Nat × (Nat × Int) × Elt) (γ:=Elt × (Nat × Int)) (fun x => ⟨[(0,.optr 0 0 0),(2,.c (.val (.int most))),(7,.c (.own 7 x.2.2.length)),(8,.c (.val (.int x.1)))],[(0,.pin og cap 3 [srcD code x.2.1]),(7,.row 2 (x.2.2.map ePt) false)]⟩)
  (fun x => x.1 ≤ k∧x.2.1.1 ≤ code.length∧EOk (k - x.1) most.toNat x.2.2∧kP code most x.1 x.2.1 x.2.2 = kP code most k s1 []) (fun x => x.1)
  (fun z => ⟨[(0,.optr 0 0 0),(7,.c (.own 7 z.1.length))],[(0,.pin og cap 3 [srcD code z.2]),(7,.row 2 (z.1.map ePt) false)]⟩) (fun z => z = kP code most k s1 []) (k,s1,[]) ⟨Nat.le_refl _,hat,⟨by simp,fun q hq => nomatch hq⟩,rfl⟩ ?_ ?_ ?_
 ·(repeat' (first|exact Qn|((with_reducible refine Qr ?_ ?_);focus first|with_reducible rfl|(simp only [Zz,Nat.reduceBEq,List.map_nil,List.length_nil];done)|rfl)|((with_reducible apply Qj);rfl)|((with_reducible refine Qw ?_ ?_);(focus first|with_reducible rfl|(simp only [Zv,List.map_nil,List.length_nil];done));first|exact id|exact nofun|exact fun _=>rfl)))
  all_goals first|exact ⟨rfl,rfl⟩|exact ⟨rfl,rfl,id⟩|exact ⟨rfl,rfl,rfl,rfl⟩|exact ⟨rfl,rfl,fun h => nomatch h⟩
 ·rintro ⟨j,s,e⟩ ⟨hj,hs,he,hgr⟩
  simp only at hj hs he hgr
  by_cases h0:0 < j
  ·obtain ⟨j,rfl⟩:∃ i,j = i + 1:=⟨j - 1,by omega⟩
   have i1:(((j + 1:Nat):Int) > 0) = True:=eq_true (by omega)
   have hd1:=drw0_eq (G:=numG code) hs
   obtain ⟨h1,h2⟩:=numF_ok hc hs
   have hd2:=vE (G:=kH code) h2 (m:=most) (by omega)
   obtain ⟨h3,h4⟩:=jZ0 hc (m:=most) h2
   have hgr:kP code most j (yK code (numF code s).2 most).2 (putS cmpF e (numF code s).1 (yK code (numF code s).2 most).1) = kP code most k s1 []:=hgr
   have e1:numG code s = ([.val (.int (numF code s).1)],(numF code s).2):=rfl
   rw [e1] at hd1
   obtain ⟨⟨a,s2⟩,hp⟩:∃ p,p = numF code s:=⟨_,rfl⟩
   rw [← hp] at hd1 hd2 h1 h2 h3 h4 hgr
   simp only at hd1 hd2 h1 h2 h3 h4 hgr
   have e2:kH code s2 most = ([.own 1 ((yK code s2 most).1.map eL) true],(yK code s2 most).2):=rfl
   rw [e2] at hd2
   obtain ⟨⟨f,s3⟩,hp⟩:∃ p,p = yK code s2 most:=⟨_,rfl⟩
   rw [← hp] at hd2 h3 h4 hgr
   simp only at hd2 h3 h4 hgr
   have hnext:=he.put h1 h3
   have hsm:SmF f:=by
    have g1:=wV h3.lev
    have g2:=h3.sum
    exact ⟨by omega,by omega⟩
   have hel:=he.len
   have hput:=a_l06PutO e a f (by omega) (he.okE (by omega)) h1 hsm
   have w4:w64 (((j + 1:Nat):Int) - 1) = j:=by rw [qM (by omega)];omega
   simp only [eI,eLL] at hput
   ((repeat' (first|with_reducible (first|refine Q1 ?_|refine Q2 ?_|refine Q3 ?_|refine Q4 ?_|refine Q5 ?_|refine Q6 ?_|refine Q7 ?_|refine Q8 ?_|refine Q9 ?_|refine Qa ?_|refine Qb ?_|refine Qc ?_|refine Qd ?_|refine Qe ?_|refine Qf ?_|refine QO ?_|refine QV 9 ?_|refine QY 9 ?_)|with_reducible (apply QC;refine QW ?_;simp only [Zg,seval,if_true,if_false,reduceCtorEq,Nat.reduceEqDiff,i1];rfl)));with_reducible (apply QS (qQ 26) Tab.none;refine QW ?_;simp only [Zg,seval,if_true,if_false,reduceCtorEq,Nat.reduceEqDiff,i1];rfl);(repeat' (first|with_reducible (first|refine Q1 ?_|refine Q2 ?_|refine Q3 ?_|refine Q4 ?_|refine Q5 ?_|refine Q6 ?_|refine Q7 ?_|refine Q8 ?_|refine Q9 ?_|refine Qa ?_|refine Qb ?_|refine Qc ?_|refine Qd ?_|refine Qe ?_|refine Qf ?_|refine QO ?_|refine QV 9 ?_|refine QY 9 ?_)|with_reducible (apply QC;refine QW ?_;simp only [Zg,seval,if_true,if_false,reduceCtorEq,Nat.reduceEqDiff,i1];rfl))))
   ((repeat' (first|with_reducible (first|refine Q1 ?_|refine Q2 ?_|refine Q3 ?_|refine Q4 ?_|refine Q5 ?_|refine Q6 ?_|refine Q7 ?_|refine Q8 ?_|refine Q9 ?_|refine Qa ?_|refine Qb ?_|refine Qc ?_|refine Qd ?_|refine Qe ?_|refine Qf ?_|refine QO ?_|refine QV 9 ?_|refine QY 9 ?_)|with_reducible (apply QC;refine QW ?_;simp only [Zg,seval,if_true,if_false,reduceCtorEq,Nat.reduceEqDiff,hd1,hd2,drwE,nxtE,i1];rfl)));(with_reducible refine qJ.regCut (qQ 26) (((Tab.none.pin 82 (nxtE code) hpin).pin 199 (drwE code (drw0 (numG code))) hnm).pin 125 (drwE code (drw1 (kH code))) hdf) 6 (s1:=?_) ?_ ?_);rotate_left 1;(focus ((with_reducible refine QW ?_);simp only [Zg,seval,if_true,if_false,reduceCtorEq,Nat.reduceEqDiff,hd1,hd2,drwE,nxtE,i1];with_reducible rfl));simp only [List.toList_toArray,List.drop_succ_cons,List.drop_zero])
   refine qV.frzs [23] ?_
   (refine qV.opsT (qQ 26) (T:=Tab.none.own' 137 0 hput) (s':=?_) ?_ ?_;rotate_left 1;focus (simp only [Zg,seval,if_true,if_false,reduceCtorEq,Nat.reduceEqDiff,Tab.own',vF];with_reducible rfl))
   repeat' (first|with_reducible (first|refine Q1 ?_|refine Q2 ?_|refine Q3 ?_|refine Q4 ?_|refine Q5 ?_|refine Q6 ?_|refine Q7 ?_|refine Q8 ?_|refine Q9 ?_|refine Qa ?_|refine Qb ?_|refine Qc ?_|refine Qd ?_|refine Qe ?_|refine Qf ?_|refine QO ?_|refine QV 9 ?_|refine QY 9 ?_)|with_reducible ((first|apply QS (qQ 26) Tab.none|apply QC);refine QW ?_;simp only [Zg,seval,if_true,if_false,reduceCtorEq,Nat.reduceEqDiff,w4];rfl))
   refine qY.on (j,s3,putS cmpF e a f) ⟨⟨by omega,h4,?_,hgr⟩,by simp⟩ ?_
   ·rw [show k - j = k - (j + 1) + 1 by omega];exact hnext
   (repeat' (first|exact Qn|((with_reducible refine Qr ?_ ?_);focus first|with_reducible rfl|(simp only [Zz,Nat.reduceBEq];done)|rfl)|((with_reducible apply Qj);rfl)|((with_reducible refine Qw ?_ ?_);(focus first|with_reducible rfl|(simp only [Zv];done));first|exact id|exact nofun|exact fun _=>rfl)))
   all_goals first|exact ⟨rfl,rfl⟩|exact ⟨rfl,rfl,id⟩|exact ⟨rfl,rfl,rfl,rfl⟩|exact ⟨rfl,rfl,fun h => nomatch h⟩
  ·obtain rfl:j = 0:=by omega
   have i1:(((0:Nat):Int) > 0) = False:=eq_false (by omega)
   repeat' (first|with_reducible (first|refine Q1 ?_|refine Q2 ?_|refine Q3 ?_|refine Q4 ?_|refine Q5 ?_|refine Q6 ?_|refine Q7 ?_|refine Q8 ?_|refine Q9 ?_|refine Qa ?_|refine Qb ?_|refine Qc ?_|refine Qd ?_|refine Qe ?_|refine Qf ?_|refine QO ?_|refine QV 9 ?_|refine QY 9 ?_)|with_reducible ((first|apply QS (qQ 26) Tab.none|apply QC);refine QW ?_;simp only [Zg,seval,if_true,if_false,reduceCtorEq,Nat.reduceEqDiff,i1];rfl))
   refine qY.out (e,s) hgr ?_
   (repeat' (first|exact Qn|((with_reducible refine Qr ?_ ?_);focus first|with_reducible rfl|(simp only [Zz,Nat.reduceBEq];done)|rfl)|((with_reducible apply Qj);rfl)|((with_reducible refine Qw ?_ ?_);(focus first|with_reducible rfl|(simp only [Zv];done));first|exact id|exact nofun|exact fun _=>rfl)))
   all_goals first|exact ⟨rfl,rfl⟩|exact ⟨rfl,rfl,id⟩|exact ⟨rfl,rfl,rfl,rfl⟩
 rintro z rfl
 repeat' (first|with_reducible (first|refine Q1 ?_|refine Q2 ?_|refine Q3 ?_|refine Q4 ?_|refine Q5 ?_|refine Q6 ?_|refine Q7 ?_|refine Q8 ?_|refine Q9 ?_|refine Qa ?_|refine Qb ?_|refine Qc ?_|refine Qd ?_|refine Qe ?_|refine Qf ?_|refine QO ?_|refine QV 9 ?_|refine QY 9 ?_)|with_reducible ((first|apply QS (qQ 26) Tab.none|apply QC);refine QW ?_;simp only [Zg,seval,if_true,if_false,reduceCtorEq,Nat.reduceEqDiff];rfl))
 (refine EndsP.mk (by simp) (rs:=?_) (ks:=?_) (xs':=?_) hres hrts ?_ ?_ ?_ ?_ ?_;rotate_left 3;(focus (simp only [Ze,Zg,seval,if_true,if_false,reduceCtorEq,Nat.reduceEqDiff];with_reducible rfl));(focus simp);(focus simp);(focus (simp only [look,Nat.reduceEqDiff,Nat.reduceBEq,if_true,if_false];rfl));focus (first|exact ⟨rfl,rfl⟩|exact ⟨rfl,rfl,rfl⟩|skip))
def kV:List Int:=[0,-1,10007]
def kT (code:List Int) (s:Nat × Int) (parts most:Int):Elt × (Nat × Int) :=
 let e:=xR code s parts most
 let c:=nxtF code e.2 24
 if c.1 = 0 then
  let k:=nxtF code c.2 2
  let f:=kZ code k.2 most
  (e.1 ++ [(k.1,f.1)],f.2)
 else if c.1 = 1 then
  if 0 < e.1.length then
   let p:=pickF code c.2 kV
   (e.1.set 0 (p.1,(e.1.getD 0 (0,[])).2),p.2)
  else (e.1,c.2)
 else (e.1,c.2)
structure EAOk (n m:Nat) (e:Elt):Prop where
 len:e.length ≤ n
 ok:∀ q ∈ e,(-1 ≤ q.1∧q.1 ≤ 10007)∧FAOk m q.2
theorem EOk.any {n m:Nat} {e:Elt} (h:EOk n m e):EAOk (n + 1) (m + 13) e:=⟨by have:=h.len;omega,fun q hq => by
 obtain ⟨h1,h2,h3⟩:=h.ok q hq
 have:=h2.sum
 exact ⟨by omega,⟨by omega,by omega⟩⟩⟩
theorem drawElAnyF_ok {code:List Int} (hc:jZ code) {s:Nat × Int} {parts most:Int} (hs:s.1 ≤ code.length) (hp:0 ≤ parts):EAOk (parts.toNat + 1) (most.toNat + 13) (kT code s parts most).1∧(kT code s parts most).2.1 ≤ code.length:=by
 obtain ⟨h1,h2⟩:=drawElF_ok hc (most:=most) hs hp
 unfold kT
 obtain ⟨e,he⟩:∃ e,e = xR code s parts most:=⟨_,rfl⟩
 rw [← he] at h1 h2 ⊢
 simp only
 have ha:=h1.any
 have h3:=jK (n:=24) h2
 split
 ·have h4:=jK (n:=2) h3
  have h5:=jO hc (nxtF code e.2 24).2 2
  obtain ⟨h6,h7⟩:=drawForAnyF_ok hc (m:=most) h4
  refine ⟨⟨by have:=h1.len;simp;omega,fun q hq => ?_⟩,h7⟩
  rcases List.mem_append.1 hq with hq|hq
  ·exact ha.ok q hq
  ·obtain rfl:=List.mem_singleton.1 hq
   exact ⟨by simp only;omega,h6⟩
 ·split
  ·split
   ·rename_i h0
    obtain ⟨h6,h7⟩:=pickF_ok hc h3 (l:=kV) (by decide)
    refine ⟨⟨by rw [List.length_set];exact ha.len,fun q hq => ?_⟩,h7⟩
    rcases List.mem_or_eq_of_mem_set hq with hq|rfl
    ·exact ha.ok q hq
    ·refine ⟨?_,?_⟩
     ·generalize (pickF code (nxtF code e.2 24).2 kV).1 = x at h6
      unfold kV at h6
      simp only [List.mem_cons,List.not_mem_nil,or_false] at h6
      (try simp only)
      omega
     ·have e0:e.1.getD 0 (0,[]) = e.1[0]:=by rw [List.getD_eq_getElem?_getD,List.getElem?_eq_getElem h0];rfl
      rw [e0]
      exact (ha.ok e.1[0] (List.getElem_mem _)).2
   ·exact ⟨ha,h3⟩
  ·exact ⟨ha,h3⟩
def qX0 (code:List Int) (s:Nat × Int) (parts most:Int):List Res × (Nat × Int):=([.own 2 ((kT code s parts most).1.map ePt) false],(kT code s parts most).2)
set_option maxRecDepth 20000 in
set_option maxHeartbeats 16000000 in
theorem p_l06DrawAny {code:List Int} (hc:jZ code) (hl:code.length ≤ 1000000000):xD Tryz.prog 81 code (drw2 (qX0 code)):=by
 refine drw2_of fun s parts most hs hp0 hp1 hm0 hm1 => ?_
 have hpin:=kO hc hl
 have hpk:=(p_l01Pick hc hl).ok
 have hdw:=(p_l06Draw hc hl).ok
 have hfa:=(xB0 hc hl).ok
 have hd0:=drw2_eq (G:=drawElG code) hs (a:=parts) (m:=most) ⟨⟨hp0,hp1⟩,hm0,hm1⟩
 obtain ⟨h1,h2⟩:=drawElF_ok hc (most:=most) hs hp0
 have hdr:=yD code (xR code s parts most).2 24 h2
 have hat:=jK (n:=24) h2
 unfold qX0 kT
 have e0:drawElG code s parts most = ([.own 2 ((xR code s parts most).1.map ePt) false],(xR code s parts most).2):=rfl
 rw [e0] at hd0
 obtain ⟨⟨e,s1⟩,hp⟩:∃ p,p = xR code s parts most:=⟨_,rfl⟩
 rw [← hp] at h1 h2 hdr hat hd0 ⊢
 simp only at h1 h2 hdr hat hd0 ⊢
 obtain ⟨⟨c,s2⟩,hq⟩:∃ p,p = nxtF code s1 24:=⟨_,rfl⟩
 rw [← hq] at hdr hat ⊢
 simp only [eI] at hdr hat ⊢
 have hel:=h1.len
 have hem:(e.map ePt).length = e.length:=List.length_map _
 have q1:=jF (n:=e.length + 1) (by omega)
 have q2:=jE (n:=e.length + 1) (c:=32) (by omega) (by omega)
 by_cases c0:c = 0
 ·subst c0
  have hd1:=yD code s2 2 hat
  have ha1:=jK (n:=2) hat
  obtain ⟨⟨k,s3⟩,hk⟩:∃ p,p = nxtF code s2 2:=⟨_,rfl⟩
  rw [← hk] at hd1 ha1 ⊢
  simp only [eI,if_true] at hd1 ha1 ⊢
  have hd2:=vE (G:=qU0 code) ha1 (m:=most) (by omega)
  have e2:qU0 code s3 most = ([.own 1 ((kZ code s3 most).1.map eL) false],(kZ code s3 most).2):=rfl
  rw [e2] at hd2
  obtain ⟨⟨f,s4⟩,hf⟩:∃ p,p = kZ code s3 most:=⟨_,rfl⟩
  rw [← hf] at hd2 ⊢
  simp only at hd2 ⊢
  rw [show (e ++ [(k,f)]).map ePt = e.map ePt ++ [[D.int k,D.sl 1 (f.map eL)]] by rw [List.map_append];rfl]
  refine AEp.of_runs (qQ 37) Tryz.func81 rfl rfl rfl (fun _ => rfl) gz ?_
  have hres:Tryz.f81.results.toList = [.tmp 6]:=rfl
  have hrts:Tryz.f81.resultTypes.toList = [50]:=rfl
  simp only [List.length_cons,List.length_nil,jD,if_true,qU,qK,eL,eI,eLL,eB,Nat.zero_add,Nat.reduceAdd]
  intro M og cap
  refine qJ.of ?_
  refine gw187 (Yp hdr (Yp hd0 (Yp hd1 (Yp hd2 (Yp hem (Yp q1 q2)))))) ?_
  exact gw154
 have f0:(c == 0) = false:=by simp [c0]
 by_cases c1:c = 1
 ·subst c1
  rw [if_neg c0,if_pos rfl]
  by_cases hpos:0 < e.length
  ·have hd1:=drwL_eq (G:=pickG code) hat (l:=kV) (by decide) (by decide)
   have e2:pickG code s2 kV = ([.val (.int (pickF code s2 kV).1)],(pickF code s2 kV).2):=rfl
   rw [e2] at hd1
   rw [if_pos hpos]
   obtain ⟨⟨x,s3⟩,hx⟩:∃ p,p = pickF code s2 kV:=⟨_,rfl⟩
   rw [← hx] at hd1 ⊢
   simp only [kV,List.map_cons,List.map_nil,eI] at hd1 ⊢
   have j1:((e.length:Int) > 0) = True:=eq_true (by omega)
   have j2:((0:Int) < (e.length:Int)) = True:=eq_true (by omega)
   have j3:((0:Int) ≤ 0) = True:=eq_true (by omega)
   have j4:(0:Int).toNat = 0:=rfl
   have eg:e.getD 0 (0,[]) = e[0]:=by rw [List.getD_eq_getElem?_getD,List.getElem?_eq_getElem hpos];rfl
   obtain ⟨y,hy⟩:∃ y,y = e[0]:=⟨_,rfl⟩
   rw [eg,← hy]
   have hg:(e.map ePt)[0]? = some [.int y.1,.sl 1 (y.2.map eL)]:=by rw [List.getElem?_map,List.getElem?_eq_getElem hpos,← hy];rfl
   have hset:(e.map ePt).set 0 [.int x,.sl 1 (y.2.map eL)] = (e.set 0 (x,y.2)).map ePt:=by rw [List.map_set];rfl
   rw [← hset]
   refine AEp.of_runs (qQ 37) Tryz.func81 rfl rfl rfl (fun _ => rfl) gz ?_
   have hres:Tryz.f81.results.toList = [.tmp 6]:=rfl
   have hrts:Tryz.f81.resultTypes.toList = [50]:=rfl
   simp only [List.length_cons,List.length_nil,jD,if_true,qU,qK,eL,eI,eLL,eB,Nat.zero_add,Nat.reduceAdd]
   intro M og cap
   refine qJ.of ?_
   refine gw188 (Yp hdr (Yp hd0 (Yp f0 (Yp hem j1)))) ?_
   ((refine gw189 ?_);(with_reducible refine qJ.regCut (qQ 37) Tab.none 3 (s1:=?_) ?_ ?_);rotate_left 1;(focus ((with_reducible refine QW ?_);simp only [Zg,seval,if_true,if_false,reduceCtorEq,Nat.reduceEqDiff];with_reducible rfl));simp only [List.toList_toArray,List.drop_succ_cons,List.drop_zero])
   refine qV.frzs [32] ?_
   (refine qV.opsT (qQ 37) (T:=Tab.none.pin 147 (drwE code (drwL (pickG code))) hpk) (s':=?_) ?_ ?_;rotate_left 1;focus (simp only [Zg,seval,if_true,if_false,reduceCtorEq,Nat.reduceEqDiff,hd1,drwE,hem,hg,j2,j3,j4];with_reducible rfl))
   refine gw190 ?_
   exact gw154
  ·rw [if_neg hpos]
   have j1:((e.length:Int) > 0) = False:=eq_false (by omega)
   refine AEp.of_runs (qQ 37) Tryz.func81 rfl rfl rfl (fun _ => rfl) gz ?_
   have hres:Tryz.f81.results.toList = [.tmp 6]:=rfl
   have hrts:Tryz.f81.resultTypes.toList = [50]:=rfl
   simp only [List.length_cons,List.length_nil,jD,if_true,qU,qK,eL,eI,eLL,eB,Nat.zero_add,Nat.reduceAdd]
   intro M og cap
   refine qJ.of ?_
   refine gw188 (Yp hdr (Yp hd0 (Yp f0 (Yp hem j1)))) ?_
   exact gw154
 have f1:(c == 1) = false:=by simp [c1]
 rw [if_neg c0,if_neg c1]
 refine AEp.of_runs (qQ 37) Tryz.func81 rfl rfl rfl (fun _ => rfl) gz ?_
 have hres:Tryz.f81.results.toList = [.tmp 6]:=rfl
 have hrts:Tryz.f81.resultTypes.toList = [50]:=rfl
 simp only [List.length_cons,List.length_nil,jD,if_true,qU,qK,eL,eI,eLL,eB,Nat.zero_add,Nat.reduceAdd]
 intro M og cap
 refine qJ.of ?_
 refine gw188 (Yp hdr (Yp hd0 (Yp f0 (Yp f1 hem)))) ?_
 exact gw154
noncomputable def TDwE {code:List Int} (hc:jZ code) (hl:code.length ≤ 1000000000):Tab Tryz.prog :=
 (Tab.none.pin 82 (nxtE code) (kO hc hl)).pin 81 (drwE code (drw2 (qX0 code))) (p_l06DrawAny hc hl).ok
def drawCop (code:List Int):Elt:=(kT code (src0 code) 3 6).1
theorem drawCop_ok {code:List Int} (hc:jZ code):EAOk 4 19 (drawCop code):=(drawElAnyF_ok hc (parts:=3) (most:=6) (Nat.zero_le _) (by decide)).1
set_option maxHeartbeats 4000000 in
theorem a_DrawCoproductOf {code:List Int} (hc:jZ code) (hl:code.length ≤ 1000000000):AFn Tryz.prog 41 [eCode code] (· = [.own 2 ((drawCop code).map ePt) false]):=by
 have hfrom:=p_l01From hc hl
 have hs:(src0 code).1 ≤ code.length:=Nat.zero_le _
 have hd1:=drw2_eq (G:=qX0 code) hs (a:=3) (m:=6) (by decide)
 unfold drawCop
 have e1:qX0 code (src0 code) 3 6 = ([.own 2 ((kT code (src0 code) 3 6).1.map ePt) false],(kT code (src0 code) 3 6).2):=rfl
 rw [e1] at hd1
 obtain ⟨⟨t,s1⟩,hp⟩:∃ p,p = kT code (src0 code) 3 6:=⟨_,rfl⟩
 rw [← hp] at hd1 ⊢
 simp only at hd1 ⊢
 simp only [eCode,dCode] at hfrom ⊢
 refine AFn.of_runs (qQ 6) Tryz.func41 rfl rfl rfl gz ?_
 have hres:Tryz.f41.results.toList = [.tmp 2]:=rfl
 have hrts:Tryz.f41.resultTypes.toList = [50]:=rfl
 simp only [qU,qK,eL,eI,eLL,eB,Nat.zero_add,Nat.reduceAdd,eCode,dCode]
 intro M
 refine qJ.of ?_
 ((refine gw191 ?_);with_reducible (apply QS (qQ 6) Tab.none;refine QW ?_;simp only [Zg,seval,if_true,if_false,reduceCtorEq,Nat.reduceEqDiff];rfl);(refine gw191 ?_))
 ((refine gw191 ?_);(with_reducible refine qJ.regCut (qQ 6) Tab.none 1 (s1:=?_) ?_ ?_);rotate_left 1;(focus ((with_reducible refine QW ?_);simp only [Zg,seval,if_true,if_false,reduceCtorEq,Nat.reduceEqDiff];with_reducible rfl));simp only [List.toList_toArray,List.drop_succ_cons,List.drop_zero])
 refine qV.callR (qQ 6) rfl (d:=4) rfl (by decide) rfl rfl rfl rfl hfrom rfl ?_
 intro b
 (refine qV.opsT (qQ 6) (T:=TDwE hc hl) (s':=?_) ?_ ?_;rotate_left 1;focus (simp only [Zg,seval,if_true,if_false,reduceCtorEq,Nat.reduceEqDiff,TDwE,hd1,drwE,nxtE,srcD_len];with_reducible rfl))
 refine gw116 Y0 ?_
 exact gw8
theorem getD_ltn {l:List Int} {i:Nat} (h:i < l.length):l.getD i 0 = l[i]:=by rw [List.getD_eq_getElem?_getD,List.getElem?_eq_getElem h];rfl
theorem mapI_get {l:List Int} {i:Nat} (h:i < l.length):(l.map eI)[i]? = some [.int (l.getD i 0)]:=by rw [List.getElem?_map,List.getElem?_eq_getElem h,getD_ltn h];rfl
set_option maxHeartbeats 4000000 in
theorem a_likeInts (xs ys:List Int) (hsz:xs.length ≤ 1000000000):AFn Tryz.prog 101 [eL xs,eL ys] (· = [.val (.bool (decide (xs = ys)))]):=by
 have hx:(xs.map eI).length = xs.length:=List.length_map _
 have hy:(ys.map eI).length = ys.length:=List.length_map _
 by_cases hl:xs.length = ys.length
 rotate_left
 ·have hne:xs ≠ ys:=fun e => hl (by rw [e])
  have b:(((xs.length:Nat):Int) != ((ys.length:Nat):Int)) = true:=bne_iff_ne.2 (by omega)
  rw [decide_eq_false hne]
  refine AFn.of_runs (qQ 26) Tryz.func101 rfl rfl rfl gz ?_
  have hres:Tryz.f101.results.toList = [.tmp 4]:=rfl
  have hrts:Tryz.f101.resultTypes.toList = [4]:=rfl
  simp only [qU,qK,eL,eI,eLL,eB,Nat.zero_add,Nat.reduceAdd]
  intro M
  refine qJ.of ?_
  refine gw192 (Yp b (Yp hx hy)) ?_
  exact gw8
 have b:(((ys.length:Nat):Int) != ((ys.length:Nat):Int)) = false:=by simp
 refine AFn.of_runs (qQ 26) Tryz.func101 rfl rfl rfl gz ?_
 have hres:Tryz.f101.results.toList = [.tmp 4]:=rfl
 have hrts:Tryz.f101.resultTypes.toList = [4]:=rfl
 simp only [qU,qK,eL,eI,eLL,eB,Nat.zero_add,Nat.reduceAdd]
 intro M
 refine qJ.of ?_
 refine gw192 (Yp b (Yp hx (Yp hy hl))) ?_
 refine qJ.loop (β:=Nat) (γ:=Unit) (fun i => ⟨[(0,.c (.val (.sl 1 (xs.map eI)))),(1,.c (.val (.sl 1 (ys.map eI)))),(5,.c (.val (.int i)))],[]⟩) (fun i => i ≤ xs.length∧xs.take i = ys.take i) (fun i => xs.length - i)
  (fun _ => ⟨[],[]⟩) (fun _ => xs = ys) 0 ⟨Nat.zero_le _,rfl⟩ ?_ ?_ ?_
 ·exact gw193 Y0
 ·rintro i ⟨hi,ht⟩
  have hw:=qD (n:=i) (by omega)
  by_cases h:i < xs.length
  ·have i1:((i:Int) < (ys.length:Int)) = True:=eq_true (by omega)
   have i2:((0:Int) ≤ (i:Int)) = True:=eq_true (by omega)
   have g1:=mapI_get h
   have g2:=mapI_get (l:=ys) (i:=i) (by omega)
   by_cases he:xs.getD i 0 = ys.getD i 0
   ·have e0:(xs.getD i 0 != ys.getD i 0) = false:=by rw [he];simp only [bne_self_eq_false]
    refine gw194 (Yp i1 (Yp i2 (Yp g1 (Yp g2 (Yp hx (Yp hy (Yp hl (Yp hw e0)))))))) ?_
    refine qY.on (i + 1) ⟨⟨h,?_⟩,by omega⟩ ?_
    ·rw [getD_ltn h,getD_ltn (by omega)] at he
     rw [List.take_succ_eq_append_getElem h,List.take_succ_eq_append_getElem (by omega),ht,he]
    exact gw6 Y0
   ·have e0:(xs.getD i 0 != ys.getD i 0) = true:=bne_iff_ne.2 he
    have hne:xs ≠ ys:=fun e => he (by rw [e])
    rw [decide_eq_false hne]
    refine gw194 (Yp i1 (Yp i2 (Yp g1 (Yp g2 (Yp hx (Yp hy (Yp hl (Yp hw e0)))))))) ?_
    refine qY.ret ?_
    refine gw192 Y0 ?_
    exact gw8
  ·have i1:((i:Int) < (ys.length:Int)) = False:=eq_false (by omega)
   refine gw192 (Yp i1 (Yp hx hl)) ?_
   refine qY.out () ?_ ?_
   ·rw [List.take_of_length_le (by omega),List.take_of_length_le (by omega)] at ht
    exact ht
   exact gw6 Y0
 ·intro _ he
  rw [decide_eq_true he]
  refine gw192 Y0 ?_
  exact gw8
set_option maxHeartbeats 2000000 in
theorem a_same9 (f g:List (List Int)) (hf:f.length ≤ 1000000000) (hg:g.length ≤ 1000000000) (hsz:∀ t ∈ f,t.length ≤ 1000000000):AFn Tryz.prog 45 [eLL f,eLL g] (· = [.val (.bool (decide (f = g)))]):=by
 have hfm:(f.map eL).length = f.length:=List.length_map _
 have hgm:(g.map eL).length = g.length:=List.length_map _
 refine AFn.of_runs (qQ 27) Tryz.func45 rfl rfl rfl gz ?_
 have hres:Tryz.f45.results.toList = [.tmp 4]:=rfl
 have hrts:Tryz.f45.resultTypes.toList = [4]:=rfl
 simp only [qU,qK,eL,eI,eLL,eB,Nat.zero_add,Nat.reduceAdd]
 intro M
 refine qJ.of ?_
 by_cases hl:f.length = g.length
 ·have hb:((f.length:Int) != (g.length:Int)) = false:=by simp [hl]
  refine gw195 (Yp hfm (Yp hgm hb)) ?_
  refine qJ.loop (β:=Nat) (γ:=Unit) (fun i => ⟨[(0,.c (.val (.sl 1 (f.map eL)))),(1,.c (.val (.sl 1 (g.map eL)))),(5,.c (.val (.int i)))],[]⟩) (fun i => i ≤ f.length∧f.take i = g.take i) (fun i => f.length - i)
   (fun _ => ⟨[],[]⟩) (fun _ => f = g) 0 ⟨Nat.zero_le _,rfl⟩ ?_ ?_ ?_
  ·exact gw193 Y0
  ·rintro i ⟨hi,ht⟩
   have hw:=qD (n:=i) (by omega)
   by_cases h:i < f.length
   ·have h2:i < g.length:=by omega
    have i1:((i:Int) < (f.length:Int)) = True:=eq_true (by omega)
    have i1':((i:Int) < (g.length:Int)) = True:=eq_true (by omega)
    have i2:((0:Int) ≤ (i:Int)) = True:=eq_true (by omega)
    obtain ⟨s,hs⟩:∃ s,s = f[i]:=⟨_,rfl⟩
    obtain ⟨t,htt⟩:∃ t,t = g[i]:=⟨_,rfl⟩
    have hgs:(f.map eL)[i]? = some [.sl 1 (s.map eI)]:=by rw [qL h,hs];rfl
    have hgt:(g.map eL)[i]? = some [.sl 1 (t.map eI)]:=by rw [qL h2,htt];rfl
    have hsm:=a_likeInts s t (by rw [hs];exact hsz _ (List.getElem_mem _))
    simp only [eL] at hsm
    by_cases hst:s = t
    ·rw [decide_eq_true hst] at hsm
     refine gw196 (Yp hfm (Yp hgm (Yp i1 (Yp i1' (Yp i2 (Yp hgs (Yp hgt hw))))))) ?_
     refine qY.on (i + 1) ⟨⟨h,?_⟩,by omega⟩ ?_
     ·rw [List.take_succ_eq_append_getElem h,List.take_succ_eq_append_getElem h2,ht,← hs,← htt,hst]
     ·exact gw6 Y0
    ·rw [decide_eq_false hst] at hsm
     have hne:f ≠ g:=fun e => hst (by rw [hs,htt];subst e;rfl)
     rw [decide_eq_false hne]
     refine gw196 (Yp hfm (Yp hgm (Yp i1 (Yp i1' (Yp i2 (Yp hgs (Yp hgt hw))))))) ?_
     refine qY.ret ?_
     refine gw195 Y0 ?_
     exact gw8
   ·have i1:((i:Int) < (f.length:Int)) = False:=eq_false (by omega)
    obtain rfl:i = f.length:=by omega
    refine gw195 (Yp hfm i1) ?_
    refine qY.out () ?_ ?_
    ·rw [List.take_length,hl,List.take_length] at ht;exact ht
    ·exact gw6 Y0
  ·rintro _ hfg
   rw [decide_eq_true hfg]
   refine gw195 Y0 ?_
   exact gw8
 ·have hb:((f.length:Int) != (g.length:Int)) = true:=by simp;omega
  have hne:f ≠ g:=fun e => hl (by rw [e])
  rw [decide_eq_false hne]
  refine gw195 (Yp hfm (Yp hgm hb)) ?_
  exact gw8
noncomputable def TS9:Tab Tryz.prog:=by
 classical
 exact Tab.none.add 45 (tab2 codLL codLL fun f g => if f.length ≤ 1000000∧g.length ≤ 1000000∧∀ t ∈ f,t.length ≤ 1000000 then some [.val (.bool (decide (f = g)))] else none) (yW fun f g rs h => by split at h;cases h;rename_i hs;exact a_same9 f g (by have:=hs.1;omega) (by have:=hs.2.1;omega) (fun t ht => by have:=hs.2.2 t ht;omega);cases h)
theorem AFn.valT2 {P:Program} {f:FuncId} {ds:List (List D)} {k:Nat} {xs:List (List D)} {c:Int} (h:AFn P f ds (· = [.own k xs true,.val (.int c)])):AFn P f ds (· = [.val (.sl k xs),.val (.int c)]):=by
 refine ⟨h.call,fun A w vs hA hr => (h.fn A w vs hA hr).mono ?_⟩
 rintro e w' ⟨v,rs,rfl,rfl,hb,us,G,X,rfl,hG1,hG2,hrel⟩
 obtain ⟨v1,us1,G1,G2,Y1,Y2,rfl,e1,e2,ho,⟨og,cap,F,dd,rfl,hrow,hk,e3,e4,hel⟩,hrest⟩:=hrel
 have hel:ownR k w' dd xs F:=hel
 have hv:=vV.2 ⟨og,dd,F,hrow,hel,rfl⟩
 obtain ⟨v2,us2,G3,G4,Y3,Y4,rfl,f1,f2,ho2,⟨hv2,f3,f4⟩,hend⟩:=hrest
 have hend:us2 = []∧G4 = []∧Y4 = []:=hend
 obtain ⟨rfl,rfl,rfl⟩:=hend
 refine ⟨_,_,rfl,rfl,hb,[_,_],[],[],rfl,List.nodup_nil,(fun b hb => nomatch hb),_,[_],[],[],[],[],rfl,rfl,rfl,ho,⟨?_,rfl,rfl⟩,_,[],[],[],[],[],rfl,rfl,rfl,ho2,⟨jQ.2 (jQ.1 hv2),rfl,rfl⟩,rfl,rfl,rfl⟩
 exact hv.rd.mono (fun b hb _ => ⟨.inr (hG2 b (by
  rw [e1,e3]
  exact List.mem_append_left _ (by simpa using hb))),by simp⟩)
theorem AFn.valF2 {P:Program} {f:FuncId} {ds:List (List D)} {k:Nat} {xs:List (List D)} {c:Int} (h:AFn P f ds (· = [.own k xs false,.val (.int c)])):AFn P f ds (· = [.val (.sl k xs),.val (.int c)]):=by
 refine ⟨h.call,fun A w vs hA hr => (h.fn A w vs hA hr).mono ?_⟩
 rintro e w' ⟨v,rs,rfl,rfl,hb,us,G,X,rfl,hG1,hG2,hrel⟩
 obtain ⟨v1,us1,G1,G2,Y1,Y2,rfl,e1,e2,ho,⟨og,cap,F,dd,rfl,hrow,hk,e3,e4,hel⟩,hrest⟩:=hrel
 obtain ⟨v2,us2,G3,G4,Y3,Y4,rfl,f1,f2,ho2,⟨hv2,f3,f4⟩,hend⟩:=hrest
 have hend:us2 = []∧G4 = []∧Y4 = []:=hend
 obtain ⟨rfl,rfl,rfl⟩:=hend
 have hel:rdR k (fun b => (A b ∨ w.heap.size ≤ b)∧b ∉ X) w' dd xs:=hel
 refine ⟨_,_,rfl,rfl,hb,[_,_],[],[],rfl,List.nodup_nil,(fun b hb => nomatch hb),_,[_],[],[],[],[],rfl,rfl,rfl,ho,⟨?_,rfl,rfl⟩,_,[],[],[],[],[],rfl,rfl,rfl,ho2,⟨jQ.2 (jQ.1 hv2),rfl,rfl⟩,rfl,rfl,rfl⟩
 obtain ⟨oa,c',e,h1,h2,h3,h4⟩:=vU hrow
 refine yL.2 ⟨oa,c',dd,e,h1,h2,h3,hel.mono (fun b hb _ => ⟨hb.1,by simp⟩),?_⟩
 cases og with
 | none =>
  left
  have:=hrow.len0
  exact List.eq_nil_of_length_eq_zero (by rw [hrow.1,this,Nat.zero_mul])
 | some g =>
  refine .inr ⟨g,0,h4,⟨.inr (hG2 g (by rw [e1,e3];simp)),by simp⟩,fun j u hj => ?_⟩
  rw [Nat.zero_add]
  exact hrow.cells j u hj
theorem a_spec_CopV (e:Elt) (hz:szP e):AFn Tryz.prog 43 [[.sl 2 (e.map ePt)]] (· = [.val (.sl 3 ((copOf e).1.map eTe)),.val (.int (copOf e).2)]):=by
 obtain ⟨r,hr,h⟩:=xD0 e hz
 rcases hr with rfl|rfl|rfl
 ·exact h.valT2
 ·exact h.valF2
 ·exact h
noncomputable def TCs:Tab Tryz.prog:=by
 classical
 exact (Tab.none.add 42 (tab1 (codS 2 codPt) fun e => if szP e then some [.val (.sl 3 ((copOf e).1.map eTe)),.val (.int (copOf e).2)] else none) (yB fun e rs h => by split at h;cases h;rename_i hs;exact AFn.valT2 (xC0 e hs);cases h)).add
  43 (tab1 (codS 2 codPt) fun e => if szP e then some [.val (.sl 3 ((copOf e).1.map eTe)),.val (.int (copOf e).2)] else none) (yB fun e rs h => by split at h;cases h;rename_i hs;exact a_spec_CopV e hs;cases h)
theorem a_ContainsFuncPt {α:Type} (e:α→List D) (d:α→D) (c0:α→Int) (f:α→List (List Int)) (p:α→Bool) (g:FuncId) (he:∀ x,e x = [.int (c0 x),d x]) (hun:∀ x,(d x).un = .sl 1 ((f x).map eL)) (hp:∀ x,AFn Tryz.prog g [[.int (c0 x),.sl 1 ((f x).map eL)]] (· = [.val (.bool (p x))])) (xs:List α) (hl:xs.length ≤ 1000000000) :
  AFn Tryz.prog 141 [[.sl 2 (xs.map e)],[.raw (.func (.func g) #[] #[])]] (· = [.val (.bool (xs.any p))]):=by
 have hidx:=yI0 e d c0 f p g he hun hp xs hl
 rcases hfi:fIdx p xs with _|i0
 ·rw [hfi] at hidx
  have hk:xs.any p = false:=List.any_eq_false.2 (fun x hx => by rw [wY.1 hfi x hx];decide)
  rw [hk]
  refine AFn.of_runs (qQ 9) Tryz.func141 rfl rfl rfl gz ?_
  have hres:Tryz.f141.results.toList = [.tmp 4]:=rfl
  have hrts:Tryz.f141.resultTypes.toList = [4]:=rfl
  simp only [qU,qK,eL,eI,eLL,eB,Nat.zero_add,Nat.reduceAdd]
  intro M
  refine qJ.of ?_
  repeat' (first|with_reducible (first|refine Q1 ?_|refine Q2 ?_|refine Q3 ?_|refine Q4 ?_|refine Q5 ?_|refine Q6 ?_|refine Q7 ?_|refine Q8 ?_|refine Q9 ?_|refine Qa ?_|refine Qb ?_|refine Qc ?_|refine Qd ?_|refine Qe ?_|refine Qf ?_|refine QO ?_|refine QV 5 ?_|refine QY 5 ?_)|with_reducible ((first|apply QS (qQ 9) (Tab.none.at' 197 hidx)|apply QC);refine QW ?_;simp only [Zg,seval,if_true,if_false,reduceCtorEq,Nat.reduceEqDiff,idxI,show ((-1:Int) ≥ 0) = False from eq_false (by decide)];rfl))
  (refine jY.mk (by simp) (rs:=?_) (ks:=?_) hres hrts ?_ ?_ ?_;rotate_left 2;(focus (simp only [Ze,Zg,seval,if_true,if_false,reduceCtorEq,Nat.reduceEqDiff];with_reducible rfl));(focus simp);focus (first|with_reducible rfl|(simp only [Zv];done)))
 ·rw [hfi] at hidx
  obtain ⟨hi0,hpi,_⟩:=jV0 hfi
  have hk:xs.any p = true:=List.any_eq_true.2 ⟨_,List.getElem_mem hi0,hpi⟩
  have i1:((i0:Int) ≥ 0) = True:=eq_true (by omega)
  rw [hk]
  refine AFn.of_runs (qQ 9) Tryz.func141 rfl rfl rfl gz ?_
  have hres:Tryz.f141.results.toList = [.tmp 4]:=rfl
  have hrts:Tryz.f141.resultTypes.toList = [4]:=rfl
  simp only [qU,qK,eL,eI,eLL,eB,Nat.zero_add,Nat.reduceAdd]
  intro M
  refine qJ.of ?_
  repeat' (first|with_reducible (first|refine Q1 ?_|refine Q2 ?_|refine Q3 ?_|refine Q4 ?_|refine Q5 ?_|refine Q6 ?_|refine Q7 ?_|refine Q8 ?_|refine Q9 ?_|refine Qa ?_|refine Qb ?_|refine Qc ?_|refine Qd ?_|refine Qe ?_|refine Qf ?_|refine QO ?_|refine QV 5 ?_|refine QY 5 ?_)|with_reducible ((first|apply QS (qQ 9) (Tab.none.at' 197 hidx)|apply QC);refine QW ?_;simp only [Zg,seval,if_true,if_false,reduceCtorEq,Nat.reduceEqDiff,idxI,i1];rfl))
  (refine jY.mk (by simp) (rs:=?_) (ks:=?_) hres hrts ?_ ?_ ?_;rotate_left 2;(focus (simp only [Ze,Zg,seval,if_true,if_false,reduceCtorEq,Nat.reduceEqDiff];with_reducible rfl));(focus simp);focus (first|with_reducible rfl|(simp only [Zv];done)))
theorem a_limited1 (n:Int) (f:List (List Int)):AFn Tryz.prog 142 [[.int n,.sl 1 (f.map eL)]] (· = [.val (.bool (decide (jB f > 8)))]):=by
 have hn:=a_nodesIn f
 simp only [eLL] at hn
 refine AFn.of_runs (qQ 7) Tryz.func142 rfl rfl rfl gz ?_
 have hres:Tryz.f142.results.toList = [.tmp 2]:=rfl
 have hrts:Tryz.f142.resultTypes.toList = [4]:=rfl
 simp only [qU,qK,eL,eI,eLL,eB,Nat.zero_add,Nat.reduceAdd]
 intro M
 refine qJ.of ?_
 by_cases h:jB f > 8
 ·have i1:(jB f > 8) = True:=eq_true h
  rw [decide_eq_true h]
  refine gw198 i1 ?_
  exact gw8
 ·have i1:(jB f > 8) = False:=eq_false h
  rw [decide_eq_false h]
  refine gw198 i1 ?_
  exact gw8
set_option maxHeartbeats 1000000 in
theorem a_limited (L:Elt) (hl:L.length ≤ 100000) (hz:∀ z ∈ L,(0 ≤ z.1∧z.1 < 10007)∧SmF z.2):AFn Tryz.prog 77 [[.sl 2 (L.map ePt)]] (· = [.own 2 ((limS (sumS cmpF L)).1.map ePt) true,.val (.int (limS (sumS cmpF L)).2)]):=by
 have h1:=a_summed L hl (fun z hz' => ⟨(hz z hz').1,by have:=(hz z hz').2.1;omega,by have:=(hz z hz').2.2;omega⟩)
 have hok:OkE (sumS cmpF L):=addS_okE OkE.nil hz
 have hsl:=addS_len L []
 simp only [List.length_nil] at hsl
 obtain ⟨S,hS⟩:∃ S,S = sumS cmpF L:=⟨_,rfl⟩
 have hsl:S.length ≤ 1000000000:=by rw [hS];show (addS cmpF [] L).length ≤ _;omega
 rw [← hS] at h1 hok ⊢
 have h2:=a_ContainsFuncPt ePt (fun z => .sl 1 (z.2.map eL)) (·.1) (·.2) (fun z => decide (jB z.2 > 8)) 142 (fun _ => rfl) (fun _ => rfl) (fun z => a_limited1 z.1 z.2) S hsl
 have hany:S.any (fun z => decide (jB z.2 > 8)) = !decide (∀ p ∈ S,qX p.2 ≤ 8):=by
  by_cases h:∀ p ∈ S,qX p.2 ≤ 8
  ·rw [decide_eq_true h]
   refine List.any_eq_false.2 (fun x hx => ?_)
   have:=h x hx
   rw [kC x.2 (by omega)]
   simp;omega
  ·rw [decide_eq_false h]
   have h':∃ p ∈ S,8 < qX p.2:=by
    refine Classical.byContradiction fun hn => h fun p hp => ?_
    refine Classical.byContradiction fun hq => hn ⟨p,hp,by omega⟩
   obtain ⟨p,hp,hq⟩:=h'
   refine List.any_eq_true.2 ⟨p,hp,?_⟩
   rw [kC p.2 (by have:=(hok p hp).2.2;omega)]
   exact decide_eq_true (by omega)
 rw [hany] at h2
 unfold limS
 refine AFn.of_runs (qQ 15) Tryz.func77 rfl rfl rfl gz ?_
 have hres:Tryz.f77.results.toList = [.tmp 2,.tmp 3]:=rfl
 have hrts:Tryz.f77.resultTypes.toList = [50,2]:=rfl
 simp only [qU,qK,eL,eI,eLL,eB,Nat.zero_add,Nat.reduceAdd]
 intro M
 refine qJ.of ?_
 by_cases hn:S.length ≤ 300
 ·have i1:((S.length:Int) > 300) = False:=eq_false (by omega)
  by_cases h8:∀ p ∈ S,qX p.2 ≤ 8
  ·rw [if_pos ⟨hn,h8⟩]
   rw [decide_eq_true h8] at h2
   refine gw199 i1 ?_
   exact gw8
  ·rw [if_neg (fun h => h8 h.2)]
   rw [decide_eq_false h8] at h2
   refine gw200 i1 ?_
   exact gw8
 ·have i1:((S.length:Int) > 300) = True:=eq_true (by omega)
  rw [if_neg (fun h => hn h.1)]
  refine gw201 i1 ?_
  exact gw8
def rotL (e:Elt):Elt:=e.map fun p => (p.1,[canon (qA p.2)])
theorem rot_sm {f:List (List Int)} (h:forB f = true):SmF [canon (qA f)]∧(canon (qA f)).length ≤ 9:=by
 have h1:=(xT h).1
 have h2:=xP (yI (yH h))
 rw [xJ] at h2
 refine ⟨⟨by simp,?_⟩,by omega⟩
 simp [qX];omega
theorem rotL_ok {e:Elt} (h:elB e = true):∀ q ∈ rotL e,(0 ≤ q.1∧q.1 < 10007)∧SmF q.2:=fun q hq => by
 obtain ⟨p,hp,rfl⟩:=List.mem_map.1 hq
 obtain ⟨_,h2,_,h4⟩:=yR h
 have:=h2.2 p hp
 exact ⟨⟨by simp only;omega,by simp only;omega⟩,(rot_sm (h4 p hp)).1⟩
set_option maxHeartbeats 2000000 in
theorem xG0 (e:Elt) (hz:szP e):AFn Tryz.prog 44 [[.sl 2 (e.map ePt)]] (· = [.own 2 ((rotOf e).1.map ePt) true,.val (.int (rotOf e).2)]):=by
 have h1:=yK0 e hz
 unfold rotOf
 refine AFn.of_runs (qQ 33) Tryz.func44 rfl rfl rfl gz ?_
 have hres:Tryz.f44.results.toList = [.tmp 2,.tmp 3]:=rfl
 have hrts:Tryz.f44.resultTypes.toList = [50,2]:=rfl
 simp only [qU,qK,eL,eI,eLL,eB,Nat.zero_add,Nat.reduceAdd]
 intro M
 refine qJ.of ?_
 by_cases hE:elB e = true
 rotate_left
 ·have hE':elB e = false:=by simpa using hE
  rw [if_neg hE]
  rw [hE'] at h1
  refine gw202 ?_
  exact gw8
 rw [hE] at h1
 rw [if_pos hE]
 obtain ⟨hl,_,_,hfo⟩:=yR hE
 have h4:=a_limited (rotL e) (by unfold rotL;rw [List.length_map];omega) (rotL_ok hE)
 refine gw202 ?_
 refine qJ.loop (β:=Nat) (γ:=Unit) (fun i => ⟨[(4,.c (.own 4 i)),(11,.c (.val (.sl 2 (e.map ePt)))),(12,.c (.val (.int e.length))),(13,.c (.val (.int i)))],[(4,.row 2 ((rotL (e.take i)).map ePt) false)]⟩) (fun i => i ≤ e.length) (fun i => e.length - i)
  (fun _ => ⟨[(4,.c (.own 4 e.length))],[(4,.row 2 ((rotL e).map ePt) false)]⟩) (fun _ => True) 0 (Nat.zero_le _) ?_ ?_ ?_
 ·exact gw203
 ·intro i hi
  have hi:i ≤ e.length:=hi
  have hw:=qD (n:=i) (by omega)
  by_cases h:i < e.length
  ·have i1:((i:Int) < (e.length:Int)) = True:=eq_true (by omega)
   have i2:((0:Int) ≤ (i:Int)) = True:=eq_true (by omega)
   obtain ⟨z,hz⟩:∃ z,z = e[i]:=⟨_,rfl⟩
   have hg:(e.map ePt)[i]? = some [.int z.1,.sl 1 (z.2.map eL)]:=by rw [qL h,hz];rfl
   have hzf:=hfo e[i] (List.getElem_mem _)
   rw [← hz] at hzf
   have hlv:=yH hzf
   have h8:=(xT hzf).1
   have hro:=AFn.valT (a_rootOn z.2 (fun b hb => (hlv b hb).small (by have:=yU hb;omega)) (by omega))
   have hca:=AFn.valT (jH0 (qA z.2) (yI hlv) (by rw [xJ];omega))
   simp only [eLL] at hro
   simp only [eL] at hca
   have hlt:((rotL (e.take i)).map ePt).length = i:=by unfold rotL;rw [List.length_map,List.length_map,List.length_take];omega
   have hle:(e.map ePt).length = e.length:=List.length_map _
   have q1:=jF (n:=i + 1) (by omega)
   have q2:=jE (n:=i + 1) (c:=32) (by omega) (by omega)
   have htk:rotL (e.take (i + 1)) = rotL (e.take i) ++ [(z.1,[canon (qA z.2)])]:=by unfold rotL;rw [hz,List.take_succ_eq_append_getElem h,List.map_append];rfl
   refine gw204 (Yp i1 (Yp i2 (Yp hg (Yp hw (Yp q1 (Yp q2 (Yp hlt hle))))))) ?_
   refine qY.on (i + 1) ⟨h,by omega⟩ ?_
   rw [htk]
   exact gw205
  ·have i1:((i:Int) < (e.length:Int)) = False:=eq_false (by omega)
   obtain rfl:i = e.length:=by omega
   rw [List.take_length]
   refine gw206 i1 ?_
   refine qY.out () trivial ?_
   exact gw6 Y0
 ·rintro _ _
  refine gw207 ?_
  (refine jY.mk (by simp) (rs:=?_) (ks:=?_) hres hrts ?_ ?_ ?_;rotate_left 2;(focus (simp only [Ze,Zg,seval,if_true,if_false,reduceCtorEq,Nat.reduceEqDiff,rotL];with_reducible rfl));(focus simp);focus (first|with_reducible rfl|(simp only [Zv,rotL];done)))
theorem EAOk.sz {n m:Nat} (hn:n ≤ 100) (hm:m ≤ 100) {e:Elt} (h:EAOk n m e):szP e:=by
 have h1:∀ (L:Elt),(∀ q ∈ L,FAOk m q.2)→szN L ≤ 202 * L.length:=fun L => by
  induction L with
  | nil => intro _;simp [szN]
  | cons q L ih =>
   intro hL
   have h2:=ih fun x hx => hL x (by simp [hx])
   have h3:=hL q (by simp)
   have h4:=h3.sum
   have h5:=h3.len
   show (q.2.length + qX q.2) + szN L ≤ 202 * (L.length + 1)
   omega
 have h2:=h1 e fun q hq => (h.ok q hq).2
 have h3:=h.len
 unfold szP
 omega
def foundP (r:Elt) (a:Int) (f:List (List Int)) (k:Nat):Bool:=(r.take k).any fun q => decide (q.1 = a) && decide (q.2 = f)
theorem foundP_succ {r:Elt} {a:Int} {f:List (List Int)} {k:Nat} (h:k < r.length):foundP r a f (k + 1) = (foundP r a f k || (decide (r[k].1 = a) && decide (r[k].2 = f))):=by
 unfold foundP
 rw [List.take_succ_eq_append_getElem h,List.any_append];simp
def foundT (L:List (Int × Spl)) (a:Int) (f g:List (List Int)) (k:Nat):Bool:=(L.take k).any fun q => decide (q.1 = a) && decide (q.2.1 = f) && decide (q.2.2 = g)
theorem foundT_succ {L:List (Int × Spl)} {a:Int} {f g:List (List Int)} {k:Nat} (h:k < L.length):foundT L a f g (k + 1) = (foundT L a f g k || (decide (L[k].1 = a) && decide (L[k].2.1 = f) && decide (L[k].2.2 = g))):=by
 unfold foundT
 rw [List.take_succ_eq_append_getElem h,List.any_append];simp
theorem okF_sz {f:List (List Int)} (h:OkF f) (h8:qX f ≤ 8):f.length ≤ 8∧∀ t ∈ f,t.length ≤ 8:=by
 refine ⟨?_,fun t ht => by have:=yU ht;omega⟩
 have:=len_sum (f:=f) fun t ht => (h.1 t ht).1
 omega
set_option maxRecDepth 20000 in
set_option maxHeartbeats 16000000 in
theorem a_FnCoproducts (code:List Int) (hc:jZ code):AFn Tryz.prog 6 [eCode code] (· = [.val (.bool true)]):=by
 have hbg:=a_big code
 by_cases hbig:4096 < code.length
 ·rw [decide_eq_true hbig] at hbg
  simp only [eCode,dCode] at hbg
  refine AFn.of_runs (qQ 187) Tryz.func6 rfl rfl rfl gz ?_
  have hres:Tryz.f6.results.toList = [.tmp 2]:=rfl
  have hrts:Tryz.f6.resultTypes.toList = [4]:=rfl
  simp only [qU,qK,eL,eI,eLL,eB,Nat.zero_add,Nat.reduceAdd,eCode,dCode]
  intro M
  refine qJ.of ?_
  refine gw208 ?_
  exact gw8
 rw [decide_eq_false hbig] at hbg
 have hl:code.length ≤ 1000000000:=by omega
 have hdr:=a_DrawCoproductOf hc hl
 have hok:=drawCop_ok hc
 obtain ⟨e,hp⟩:∃ p,p = drawCop code:=⟨_,rfl⟩
 rw [← hp] at hdr hok
 have hsz:=hok.sz (by decide) (by decide)
 have t1:=eq_true hsz
 have b0:((0:Int) != 0) = false:=by decide
 have b1:((1:Int) != 0) = true:=by decide
 have b3:((3:Int) != 0) = true:=by decide
 have b11:((1:Int) != 1) = false:=by decide
 have b33:((3:Int) != 3) = false:=by decide
 have b333:((3:Int) == 3) = true:=by decide
 have b00:((0:Int) == 0) = true:=by decide
 have b03:((0:Int) == 3) = false:=by decide
 simp only [eCode,dCode] at hbg hdr
 by_cases hE:elB e = true
 rotate_left
 ·have e1:copOf e = ([],1):=by unfold copOf;rw [if_neg hE]
  refine AFn.of_runs (qQ 187) Tryz.func6 rfl rfl rfl gz ?_
  have hres:Tryz.f6.results.toList = [.tmp 2]:=rfl
  have hrts:Tryz.f6.resultTypes.toList = [4]:=rfl
  simp only [qU,qK,eL,eI,eLL,eB,Nat.zero_add,Nat.reduceAdd,eCode,dCode]
  intro M
  refine qJ.of ?_
  refine gw209 (Yp t1 (Yp e1 (Yp b1 (Yp b11 b00)))) ?_
  exact gw8
 rcases cop_case hE with hco|hco
 rotate_left
 ·refine AFn.of_runs (qQ 187) Tryz.func6 rfl rfl rfl gz ?_
  have hres:Tryz.f6.results.toList = [.tmp 2]:=rfl
  have hrts:Tryz.f6.resultTypes.toList = [4]:=rfl
  simp only [qU,qK,eL,eI,eLL,eB,Nat.zero_add,Nat.reduceAdd,eCode,dCode]
  intro M
  refine qJ.of ?_
  refine gw209 (Yp t1 (Yp hco (Yp b3 (Yp b33 b00)))) ?_
  exact gw8
 obtain ⟨list,hlist⟩:∃ L,L = sumS cmpTe (copM e):=⟨_,rfl⟩
 rw [← hlist] at hco
 have h3:=AFn.valT2 (xG0 e hsz)
 have hem:(e.map ePt).length = e.length:=List.length_map _
 rcases rot_case hE with hro|⟨hro,hrE,_⟩
 ·rw [hro] at h3
  have t2:=eq_true (show szP [] by unfold szP szN;simp)
  have h4:copOf [] = ([],0):=rfl
  have d0:=vD []
  simp only [List.map_nil] at d0 h3
  refine AFn.of_runs (qQ 187) Tryz.func6 rfl rfl rfl gz ?_
  have hres:Tryz.f6.results.toList = [.tmp 2]:=rfl
  have hrts:Tryz.f6.resultTypes.toList = [4]:=rfl
  simp only [qU,qK,eL,eI,eLL,eB,Nat.zero_add,Nat.reduceAdd,eCode,dCode]
  intro M
  refine qJ.of ?_
  refine gw210 (Yp d0 (Yp t1 (Yp t2 (Yp hco (Yp h4 (Yp b0 (Yp b3 b333))))))) ?_
  exact gw8
 obtain ⟨R,hR⟩:∃ R,R = sumS cmpF (e.map fun p => (p.1,rtF p.2)):=⟨_,rfl⟩
 rw [← hR] at hro hrE
 rw [hro] at h3
 have hRsz:szP R:=by
  have h5:=(yR hrE).1
  have h6:∀ (L:Elt),(∀ q ∈ L,forB q.2 = true)→szN L ≤ 17 * L.length:=fun L => by
   induction L with
   | nil => intro _;simp [szN]
   | cons q L ih =>
    intro hL
    have h2:=ih fun x hx => hL x (by simp [hx])
    have h3:=forB_short (hL q (by simp))
    have h4:=(xT (hL q (by simp))).1
    show (q.2.length + qX q.2) + szN L ≤ 17 * (L.length + 1)
    omega
  have h7:=h6 R (yR hrE).2.2.2
  unfold szP
  omega
 have t2:=eq_true hRsz
 rcases cop_case hrE with hco2|hco2
 rotate_left
 ·refine AFn.of_runs (qQ 187) Tryz.func6 rfl rfl rfl gz ?_
  have hres:Tryz.f6.results.toList = [.tmp 2]:=rfl
  have hrts:Tryz.f6.resultTypes.toList = [4]:=rfl
  simp only [qU,qK,eL,eI,eLL,eB,Nat.zero_add,Nat.reduceAdd,eCode,dCode]
  intro M
  refine qJ.of ?_
  refine gw211 (Yp t1 (Yp t2 (Yp hco (Yp hco2 (Yp b0 (Yp b3 (Yp b03 b333))))))) ?_
  exact gw8
 obtain ⟨W,hW⟩:∃ W,W = sumS cmpTe (copM R):=⟨_,rfl⟩
 rw [← hW] at hco2
 have K:=ko_all hE hco hro hco2
 have k1:=K.rl;have k2:=K.wl;have k3:=K.all
 have hLk:∀ q ∈ list,OkF q.2.1∧OkF q.2.2∧qX q.2.1 + qX q.2.2 ≤ 8:=fun q hq => by rw [hlist] at hq;exact cop_key hE hq
 have hWk:∀ q ∈ W,OkF q.2.1∧OkF q.2.2∧qX q.2.1 + qX q.2.2 ≤ 8:=fun q hq => by rw [hW] at hq;exact cop_key hrE hq
 have hRk:∀ q ∈ R,OkF q.2∧qX q.2 ≤ 8:=fun q hq => ⟨okF_of ((yR hrE).2.2.2 q hq),(xT ((yR hrE).2.2.2 q hq)).1⟩
 have hRl:=(yR hrE).1
 have hLl:list.length ≤ 100000:=by
  have h5:=wW e (yR hE).2.2.2
  have h6:=addT_len (copM e) []
  have h7:=(yR hE).1
  rw [hlist]
  show (addS cmpTe [] (copM e)).length ≤ _
  simp only [List.length_nil] at h6
  omega
 have hlm:(list.map eTe).length = list.length:=List.length_map _
 have hRm:(R.map ePt).length = R.length:=List.length_map _
 have hWm:(W.map eTe).length = W.length:=List.length_map _
 have bRe:((R.length:Int) != (e.length:Int)) = false:=by rw [k1];simp
 have wWl:w64 ((list.length:Int) + (R.length:Int)) = (W.length:Int):=by rw [qM (by omega)];omega
 have bWW:((W.length:Int) != (W.length:Int)) = false:=by simp
 refine AFn.of_runs (qQ 187) Tryz.func6 rfl rfl rfl gz ?_
 have hres:Tryz.f6.results.toList = [.tmp 2]:=rfl
 have hrts:Tryz.f6.resultTypes.toList = [4]:=rfl
 simp only [qU,qK,eL,eI,eLL,eB,Nat.zero_add,Nat.reduceAdd,eCode,dCode]
 intro M
 refine qJ.of ?_
 refine gw211 (Yp t1 (Yp t2 (Yp hco (Yp hco2 (Yp b0 (Yp hlm (Yp hRm (Yp hWm (Yp hem (Yp bRe (Yp wWl bWW))))))))))) ?_
 refine qJ.loop (β:=Nat) (γ:=Unit) (fun i => ⟨[(4,.c (.val (.sl 3 (list.map eTe)))),(8,.c (.val (.sl 2 (R.map ePt)))),(10,.c (.val (.sl 3 (W.map eTe)))),(12,.c (.val (.int i)))],[]⟩) (fun i => i ≤ W.length) (fun i => W.length - i)
  (fun _ => ⟨[],[]⟩) (fun _ => True) 0 (Nat.zero_le _) ?_ ?_ ?_
 ·exact gw193 Y0
 ·intro i hi
  have hi:i ≤ W.length:=hi
  have hw:=qD (n:=i) (by omega)
  by_cases h:i < W.length
  rotate_left
  ·have i1:((i:Int) < (W.length:Int)) = False:=eq_false (by omega)
   refine gw212 (Yp i1 hWm) ?_
   refine qY.out () trivial ?_
   exact gw6 Y0
  have i1:((i:Int) < (W.length:Int)) = True:=eq_true (by omega)
  have i2:((0:Int) ≤ (i:Int)) = True:=eq_true (by omega)
  have hz:=k3 W[i] (List.getElem_mem _)
  obtain ⟨wk1,wk2,wk3⟩:=hWk W[i] (List.getElem_mem _)
  obtain ⟨⟨a,⟨f,g⟩⟩,hwd⟩:∃ w,w = W[i]:=⟨_,rfl⟩
  rw [← hwd] at hz wk1 wk2 wk3
  simp only at hz wk1 wk2 wk3
  have hg:(W.map eTe)[i]? = some [.int a,.sl 1 (f.map eL),.sl 1 (g.map eL)]:=by rw [List.getElem?_map,List.getElem?_eq_getElem h,← hwd];rfl
  have hfz:=okF_sz wk1 (by omega)
  rcases hz with ⟨hg0,q,hq,hq1,hq2⟩|⟨T,hgT,hT8,q,hq,hq1,hq2,hq3⟩
  ·subst hg0
   have c1:((0:Int) == 1) = false:=by decide
   have hfin:foundP R a f R.length = true:=by
    unfold foundP
    rw [List.take_length]
    exact List.any_eq_true.2 ⟨q,hq,by rw [hq1,hq2];simp⟩
   simp only [List.map_nil] at hg
   refine gw213 (Yp i1 (Yp i2 (Yp hWm (Yp hg b00)))) ?_
   refine qJ.loop (β:=Nat) (γ:=Unit) (fun k => ⟨[(4,.c (.val (.sl 3 (list.map eTe)))),(8,.c (.val (.sl 2 (R.map ePt)))),(10,.c (.val (.sl 3 (W.map eTe)))),(12,.c (.val (.int i))),(13,.c (.val (.bool (foundP R a f k)))),(14,.c (.val (.int k)))],[]⟩) (fun k => k ≤ R.length) (fun k => R.length - k)
    (fun _ => ⟨[(4,.c (.val (.sl 3 (list.map eTe)))),(8,.c (.val (.sl 2 (R.map ePt)))),(10,.c (.val (.sl 3 (W.map eTe)))),(12,.c (.val (.int i))),(13,.c (.val (.bool true)))],[]⟩) (fun _ => True) 0 (Nat.zero_le _) ?_ ?_ ?_
   ·exact gw193 (show foundP R a f 0 = false from rfl)
   ·intro k hk
    have hk:k ≤ R.length:=hk
    have hwk:=qD (n:=k) (by omega)
    by_cases h':k < R.length
    rotate_left
    ·have j1:((k:Int) < (R.length:Int)) = False:=eq_false (by omega)
     obtain rfl:k = R.length:=by omega
     rw [hfin]
     refine gw212 (Yp j1 hRm) ?_
     refine qY.out () trivial ?_
     exact gw6 Y0
    have j1:((k:Int) < (R.length:Int)) = True:=eq_true (by omega)
    have j2:((0:Int) ≤ (k:Int)) = True:=eq_true (by omega)
    have hst:=foundP_succ (a:=a) (f:=f) h'
    obtain ⟨rk1,rk2⟩:=hRk R[k] (List.getElem_mem _)
    obtain ⟨⟨b,u⟩,hrd⟩:∃ r,r = R[k]:=⟨_,rfl⟩
    rw [← hrd] at hst rk1 rk2
    simp only at hst rk1 rk2
    have hgr:(R.map ePt)[k]? = some [.int b,.sl 1 (u.map eL)]:=by rw [List.getElem?_map,List.getElem?_eq_getElem h',← hrd];rfl
    have huz:=okF_sz rk1 rk2
    have u1:=eq_true (show u.length ≤ 1000000∧f.length ≤ 1000000∧∀ t ∈ u,t.length ≤ 1000000 from ⟨by omega,by omega,fun t ht => by have:=huz.2 t ht;omega⟩)
    cases hfo:foundP R a f k with
    | true =>
     rw [hfo,Bool.true_or] at hst
     refine gw214 (Yp u1 (Yp i1 (Yp i2 (Yp j1 (Yp j2 (Yp hWm (Yp hRm (Yp hg (Yp hgr hwk))))))))) ?_
     refine qY.on (k + 1) ⟨h',by omega⟩ ?_
     rw [hst]
     exact gw6 Y0
    | false =>
     rw [hfo,Bool.false_or] at hst
     by_cases hab:b = a
     ·subst hab
      have bb:(b == b) = true:=by simp
      rw [decide_eq_true rfl,Bool.true_and] at hst
      refine gw214 (Yp u1 (Yp i1 (Yp i2 (Yp j1 (Yp j2 (Yp hWm (Yp hRm (Yp hg (Yp hgr (Yp bb hwk)))))))))) ?_
      refine qY.on (k + 1) ⟨h',by omega⟩ ?_
      rw [hst]
      exact gw6 Y0
     ·have bb:(b == a) = false:=beq_eq_false_iff_ne.2 hab
      rw [decide_eq_false hab,Bool.false_and] at hst
      refine gw214 (Yp u1 (Yp i1 (Yp i2 (Yp j1 (Yp j2 (Yp hWm (Yp hRm (Yp hg (Yp hgr (Yp bb hwk)))))))))) ?_
      refine qY.on (k + 1) ⟨h',by omega⟩ ?_
      rw [hst]
      exact gw6 Y0
   intro _ _
   refine gw213 (Yp i1 (Yp i2 (Yp hWm (Yp hg (Yp c1 hw))))) ?_
   refine qY.on (i + 1) ⟨h,by omega⟩ ?_
   exact gw6 Y0
  ·subst hgT
   have c0:((1:Int) == 0) = false:=by decide
   have c1:((1:Int) == 1) = true:=by decide
   have c2:((0:Int) ≤ 0) = True:=eq_true (by omega)
   have c3:((0:Int) < 1) = True:=eq_true (by omega)
   have c4:(0:Int).toNat = 0:=rfl
   have hbr:=AFn.valT2 (a_impl_BranchesOf T)
   have hbc:(brOf T).2 = 0:=by unfold brOf;rw [if_pos hT8]
   rw [hbc] at hbr
   obtain ⟨v,hv⟩:∃ v,v = (brOf T).1:=⟨_,rfl⟩
   rw [← hv] at hbr hq3
   obtain ⟨lk1,lk2,lk3⟩:=hLk q hq
   have hvz:=okF_sz lk2 (by omega)
   rw [hq3] at hvz
   have hfin:foundT list a f v list.length = true:=by
    unfold foundT
    rw [List.take_length]
    exact List.any_eq_true.2 ⟨q,hq,by rw [hq1,hq2,hq3];simp⟩
   simp only [List.map_cons,List.map_nil,eL] at hg
   simp only [eL] at hbr
   refine gw215 (Yp i1 (Yp i2 (Yp hWm (Yp hg (Yp b0 (Yp c0 (Yp c1 (Yp c2 (Yp c3 c4))))))))) ?_
   refine qJ.loop (β:=Nat) (γ:=Unit) (fun k => ⟨[(4,.c (.val (.sl 3 (list.map eTe)))),(8,.c (.val (.sl 2 (R.map ePt)))),(10,.c (.val (.sl 3 (W.map eTe)))),(12,.c (.val (.int i))),(13,.c (.val (.bool (foundT list a f v k)))),(15,.c (.val (.sl 1 (v.map eL)))),(17,.c (.val (.int k)))],[]⟩) (fun k => k ≤ list.length) (fun k => list.length - k)
    (fun _ => ⟨[(4,.c (.val (.sl 3 (list.map eTe)))),(8,.c (.val (.sl 2 (R.map ePt)))),(10,.c (.val (.sl 3 (W.map eTe)))),(12,.c (.val (.int i))),(13,.c (.val (.bool true)))],[]⟩) (fun _ => True) 0 (Nat.zero_le _) ?_ ?_ ?_
   ·exact gw193 (show foundT list a f v 0 = false from rfl)
   ·intro k hk
    have hk:k ≤ list.length:=hk
    have hwk:=qD (n:=k) (by omega)
    by_cases h':k < list.length
    rotate_left
    ·have j1:((k:Int) < (list.length:Int)) = False:=eq_false (by omega)
     obtain rfl:k = list.length:=by omega
     rw [hfin]
     refine gw212 (Yp j1 hlm) ?_
     refine qY.out () trivial ?_
     exact gw6 Y0
    have j1:((k:Int) < (list.length:Int)) = True:=eq_true (by omega)
    have j2:((0:Int) ≤ (k:Int)) = True:=eq_true (by omega)
    have hst:=foundT_succ (a:=a) (f:=f) (g:=v) h'
    obtain ⟨rk1,rk2,rk3⟩:=hLk list[k] (List.getElem_mem _)
    obtain ⟨⟨b,⟨u,x⟩⟩,hrd⟩:∃ r,r = list[k]:=⟨_,rfl⟩
    rw [← hrd] at hst rk1 rk2 rk3
    simp only at hst rk1 rk2 rk3
    have hgr:(list.map eTe)[k]? = some [.int b,.sl 1 (u.map eL),.sl 1 (x.map eL)]:=by rw [List.getElem?_map,List.getElem?_eq_getElem h',← hrd];rfl
    have huz:=okF_sz rk1 (by omega)
    have hxz:=okF_sz rk2 (by omega)
    have u1:=eq_true (show u.length ≤ 1000000∧f.length ≤ 1000000∧∀ t ∈ u,t.length ≤ 1000000 from ⟨by omega,by omega,fun t ht => by have:=huz.2 t ht;omega⟩)
    have u2:=eq_true (show x.length ≤ 1000000∧v.length ≤ 1000000∧∀ t ∈ x,t.length ≤ 1000000 from ⟨by omega,by omega,fun t ht => by have:=hxz.2 t ht;omega⟩)
    cases hfo:foundT list a f v k with
    | true =>
     rw [hfo,Bool.true_or] at hst
     refine gw214 (Yp u1 (Yp u2 (Yp i1 (Yp i2 (Yp j1 (Yp j2 (Yp hWm (Yp hlm (Yp hg (Yp hgr hwk)))))))))) ?_
     refine qY.on (k + 1) ⟨h',by omega⟩ ?_
     rw [hst]
     exact gw6 Y0
    | false =>
     rw [hfo,Bool.false_or] at hst
     by_cases hab:b = a
     ·subst hab
      have bb:(b == b) = true:=by simp
      rw [decide_eq_true rfl,Bool.true_and] at hst
      by_cases huf:u = f
      ·rw [decide_eq_true huf,Bool.true_and] at hst
       have u3:decide (u = f) = true:=decide_eq_true huf
       refine gw214 (Yp u1 (Yp u2 (Yp u3 (Yp i1 (Yp i2 (Yp j1 (Yp j2 (Yp hWm (Yp hlm (Yp hg (Yp hgr (Yp bb hwk)))))))))))) ?_
       refine qY.on (k + 1) ⟨h',by omega⟩ ?_
       rw [hst]
       exact gw6 Y0
      ·rw [decide_eq_false huf,Bool.false_and] at hst
       have u3:decide (u = f) = false:=decide_eq_false huf
       refine gw214 (Yp u1 (Yp u2 (Yp u3 (Yp i1 (Yp i2 (Yp j1 (Yp j2 (Yp hWm (Yp hlm (Yp hg (Yp hgr (Yp bb hwk)))))))))))) ?_
       refine qY.on (k + 1) ⟨h',by omega⟩ ?_
       rw [hst]
       exact gw6 Y0
     ·have bb:(b == a) = false:=beq_eq_false_iff_ne.2 hab
      rw [decide_eq_false hab,Bool.false_and,Bool.false_and] at hst
      refine gw214 (Yp u1 (Yp u2 (Yp i1 (Yp i2 (Yp j1 (Yp j2 (Yp hWm (Yp hlm (Yp hg (Yp hgr (Yp bb hwk))))))))))) ?_
      refine qY.on (k + 1) ⟨h',by omega⟩ ?_
      rw [hst]
      exact gw6 Y0
   intro _ _
   refine gw212 hw ?_
   refine qY.on (i + 1) ⟨h,by omega⟩ ?_
   exact gw6 Y0
 intro _ _
 refine gw212 Y0 ?_
 exact gw8
theorem walk_FnCoproducts (v0:Value) (x0:List Int) (w:World) (h0:Rd RBytes w [v0] x0):Calls Tryz.prog 6 #[v0] w (RetV w (.bool true)):=law_code (fun code hc => a_FnCoproducts code hc) v0 x0 w h0
end Go.Proofs.YtedgfkpfhonlpaaGreat
