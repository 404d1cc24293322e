/- Lemmas (17). -/
import Derived.Lib.AppendZeros
import Derived.Test.YtedgfkpfhonlpaaGreatZN0
import Derived.Test.YtedgfkpfhonlpaaGreatZN5
import Derived.Test.YtedgfkpfhonlpaaGreatZN6
import Derived.Test.YtedgfkpfhonlpaaGreatZN7
import Derived.Test.YtedgfkpfhonlpaaGreatZN8
import Derived.Test.YtedgfkpfhonlpaaGreatZN9
import Derived.Test.YtedgfkpfhonlpaaGreatZN10
import Derived.Test.YtedgfkpfhonlpaaGreatZN11
import Derived.Test.YtedgfkpfhonlpaaGreatZN13
import Derived.Test.YtedgfkpfhonlpaaGreatZN14
import Derived.Test.YtedgfkpfhonlpaaGreatZN15
import Derived.Test.YtedgfkpfhonlpaaGreatZN16
set_option maxHeartbeats 16000000
set_option maxRecDepth 100000
set_option linter.unusedSimpArgs false
set_option linter.unusedVariables false
namespace Go.Proofs.YtedgfkpfhonlpaaGreat
open Go.RowKit
def drw0 (G:(Nat × Int)→List Res × (Nat × Int)) (s:Nat × Int):List (List D)→Option (List Res × (Nat × Int))
 | [] => some (G s)
 | _ => none
theorem drw0_eq {code:List Int} {G:(Nat × Int)→List Res × (Nat × Int)} {s:Nat × Int} (h:s.1 ≤ code.length):drwG code (drw0 G) 3 [srcD code s] [] = some ((G s).1,[srcD code (G s).2]):=by
 rw [drwG_eq h];rfl
theorem drw0_of {P:Program} {f:FuncId} {code:List Int} {G:(Nat × Int)→List Res × (Nat × Int)} (h:∀ s,s.1 ≤ code.length→AEp P f true 3 [srcD code s] [] (fun r x => r = (G s).1∧x = [srcD code (G s).2])):xF P f code (drw0 G):=by
 intro s post rs s' hs hp
 unfold drw0 at hp
 split at hp
 ·have e:=Option.some.inj hp
  have e1:rs = (G s).1:=by rw [e]
  have e2:s' = (G s).2:=by rw [e]
  subst e1;subst e2
  exact h s hs
 ·cases hp
def drw2 (G:(Nat × Int)→Int→Int→List Res × (Nat × Int)) (s:Nat × Int):List (List D)→Option (List Res × (Nat × Int))
 | [[.int a],[.int m]] => if (0 ≤ a∧a ≤ 10)∧0 ≤ m∧m ≤ 8 then some (G s a m) else none
 | _ => none
theorem drw2_eq {code:List Int} {G:(Nat × Int)→Int→Int→List Res × (Nat × Int)} {s:Nat × Int} (h:s.1 ≤ code.length) {a m:Int} (hm:(0 ≤ a∧a ≤ 10)∧0 ≤ m∧m ≤ 8):drwG code (drw2 G) 3 [srcD code s] [[.int a],[.int m]] = some ((G s a m).1,[srcD code (G s a m).2]):=by
 rw [drwG_eq h]
 show Option.map _ (if (0 ≤ a∧a ≤ 10)∧0 ≤ m∧m ≤ 8 then some (G s a m) else none) = _
 rw [if_pos hm];rfl
theorem drw2_of {P:Program} {f:FuncId} {code:List Int} {G:(Nat × Int)→Int→Int→List Res × (Nat × Int)} (h:∀ s a m,s.1 ≤ code.length→0 ≤ a→a ≤ 10→0 ≤ m→m ≤ 8→AEp P f true 3 [srcD code s] [[.int a],[.int m]] (fun r x => r = (G s a m).1∧x = [srcD code (G s a m).2])):xF P f code (drw2 G):=by
 intro s post rs s' hs hp
 unfold drw2 at hp
 split at hp
 ·rename_i a m
  split at hp
  ·rename_i hm
   have e:=Option.some.inj hp
   have e1:rs = (G s a m).1:=by rw [e]
   have e2:s' = (G s a m).2:=by rw [e]
   subst e1;subst e2
   exact h s a m hs hm.1.1 hm.1.2 hm.2.1 hm.2.2
  ·cases hp
 ·cases hp
def fracP (p q:Int):Int:=mP (mP p * powG 14 (mP q) 10005 1)
theorem fracP_bd (p q:Int):0 ≤ fracP p q∧fracP p q < 10007:=mP_bdW _
theorem a_l01FracG (p q:Int) (hp:-1000 ≤ p∧p ≤ 1000) (hq:-1000 ≤ q∧q ≤ 1000):AFn Tryz.prog 232 [eI p,eI q] (· = [.val (.int (fracP p q))]):=by
 have m1:=a_l01Mod p
 have m2:=a_l01Mod q
 have hb:=mP_bdW q
 have hp2:=mP_bdW p
 have hv:=powG_bd 14 (mP q) 10005 1 (by decide)
 have hbb:=mul_bdW hp2 hv
 have m3:=a_l01Inv (mP q) hb
 have m4:=jI0 (mP p) (powG 14 (mP q) 10005 1) (by omega)
 unfold fracP
 simp only [eI] at m1 m2 m3 m4
 refine AFn.of_runs (qX 11) Tryz.func232 rfl rfl rfl gz ?_
 have hres:Tryz.f232.results.toList = [.tmp 4]:=rfl
 have hrts:Tryz.f232.resultTypes.toList = [2]:=rfl
 simp only [qU,qT,eL,eI,eLL,eB,Nat.zero_add,Nat.reduceAdd]
 intro M
 refine qJ.of ?_
 refine gw175 (kk 5) ?_
 exact gw8
def kF:List Int:=[0,1,0,1,10006,2]
def numF (code:List Int) (s:Nat × Int):Int × (Nat × Int) :=
 let c:=nxtF code s 5
 if c.1 = 0 then nxtF code c.2 10007 else if c.1 = 1 then pickF code c.2 kF else
  let a:=nxtF code c.2 15
  let b:=nxtF code a.2 12
  (fracP (a.1 - 7) (1 + b.1),b.2)
theorem numF_ok {code:List Int} (hc:jT code) {s:Nat × Int} (hs:s.1 ≤ code.length):(0 ≤ (numF code s).1∧(numF code s).1 < 10007)∧(numF code s).2.1 ≤ code.length:=by
 unfold numF
 obtain ⟨c,hcd⟩:∃ c,c = nxtF code s 5:=⟨_,rfl⟩
 have h1:=jB (n:=5) hs
 rw [← hcd] at h1 ⊢
 simp only
 split
 ·have hb:=yZ hc c.2 10007
  exact ⟨by omega,jB h1⟩
 ·split
  ·obtain ⟨h2,h3⟩:=pickF_ok hc h1 (l:=kF) (by decide)
   refine ⟨?_,h3⟩
   generalize (pickF code c.2 kF).1 = x at h2
   unfold kF at h2
   simp only [List.mem_cons,List.not_mem_nil,or_false] at h2
   omega
  ·exact ⟨fracP_bd _ _,jB (jB h1)⟩
def numG (code:List Int) (s:Nat × Int):List Res × (Nat × Int):=([.val (.int (numF code s).1)],(numF code s).2)
theorem p_l01Number {code:List Int} (hc:jT code) (hl:code.length ≤ 1000000000):xF Tryz.prog 199 code (drw0 (numG code)):=by
 refine drw0_of fun s hs => ?_
 have hpin:=vE hc hl
 have hpk:=(p_l01Pick hc hl).ok
 have hdr:=yR code s 5 hs
 have hbd:=yZ hc s 5
 have hat:=jB (n:=5) hs
 unfold numG numF
 obtain ⟨⟨c,s1⟩,hp⟩:∃ p,p = nxtF code s 5:=⟨_,rfl⟩
 rw [← hp] at hdr hbd hat ⊢
 simp only [eI] at hdr hbd hat ⊢
 by_cases c0:c = 0
 ·subst c0
  have hd0:=yR code s1 10007 hat
  obtain ⟨⟨x,s2⟩,hp⟩:∃ p,p = nxtF code s1 10007:=⟨_,rfl⟩
  rw [← hp] at hd0 ⊢
  simp only [eI,if_true] at hd0 ⊢
  refine AEp.of_runs (qX 21) Tryz.func199 rfl rfl rfl (fun _ => rfl) gz ?_
  have hres:Tryz.f199.results.toList = [.tmp 2]:=rfl
  have hrts:Tryz.f199.resultTypes.toList = [2]:=rfl
  simp only [List.length_cons,List.length_nil,jL,if_true,qU,qT,eL,eI,eLL,eB,Nat.zero_add,Nat.reduceAdd]
  intro M og cap
  refine qJ.of ?_
  refine gw157 (kk 5) (Yp hdr hd0) ?_
  exact gw158
 have e0:(c == 0) = false:=by simp [c0]
 by_cases c1:c = 1
 ·subst c1
  have hd0:=drwL_eq (G:=pickG code) hat (l:=kF) (by decide) (by decide)
  have e2:pickG code s1 kF = ([.val (.int (pickF code s1 kF).1)],(pickF code s1 kF).2):=rfl
  rw [e2] at hd0
  rw [if_neg c0,if_pos rfl]
  obtain ⟨⟨x,s2⟩,hp⟩:∃ p,p = pickF code s1 kF:=⟨_,rfl⟩
  rw [← hp] at hd0 ⊢
  simp only [kF,List.map_cons,List.map_nil,eI] at hd0 ⊢
  refine AEp.of_runs (qX 21) Tryz.func199 rfl rfl rfl (fun _ => rfl) gz ?_
  have hres:Tryz.f199.results.toList = [.tmp 2]:=rfl
  have hrts:Tryz.f199.resultTypes.toList = [2]:=rfl
  simp only [List.length_cons,List.length_nil,jL,if_true,qU,qT,eL,eI,eLL,eB,Nat.zero_add,Nat.reduceAdd]
  intro M og cap
  refine qJ.of ?_
  refine gw157 (kk 5) (Yp hdr e0) ?_
  ((refine gw88 (kk 5) Y0 ?_);(with_reducible refine qJ.regCut (qX 21) Tab.none 2 (s1:=?_) ?_ ?_);rotate_left 1;(focus ((with_reducible refine QW ?_);simp only [Zg,Zi,seval];with_reducible rfl));simp only [List.toList_toArray,List.drop_succ_cons,List.drop_zero])
  refine qW.frzs [12] ?_
  (refine qW.opsT (qX 21) (T:=Tab.none.pin 147 (drwE code (drwL (pickG code))) hpk) (s':=?_) ?_ ?_;rotate_left 1;focus (simp only [Zg,Zi,seval,hd0,drwE];with_reducible rfl))
  refine gw7 (kk 5) Y0 ?_
  exact gw158
 have e1:(c == 1) = false:=by simp [c1]
 rw [if_neg c0,if_neg c1]
 have hd0:=yR code s1 15 hat
 have hb0:=yZ hc s1 15
 have ha0:=jB (n:=15) hat
 obtain ⟨⟨x,s2⟩,hp⟩:∃ p,p = nxtF code s1 15:=⟨_,rfl⟩
 rw [← hp] at hd0 hb0 ha0 ⊢
 simp only [eI] at hd0 hb0 ha0 ⊢
 have hd1:=yR code s2 12 ha0
 have hb1:=yZ hc s2 12
 obtain ⟨⟨y,s3⟩,hp⟩:∃ p,p = nxtF code s2 12:=⟨_,rfl⟩
 rw [← hp] at hd1 hb1 ⊢
 simp only [eI] at hd1 hb1 ⊢
 have hfr:=a_l01FracG (x - 7) (1 + y) (by omega) (by omega)
 have w1:w64 (x - 7) = x - 7:=qL (by omega)
 have w2:w64 (1 + y) = 1 + y:=qL (by omega)
 simp only [eI] at hfr
 refine AEp.of_runs (qX 21) Tryz.func199 rfl rfl rfl (fun _ => rfl) gz ?_
 have hres:Tryz.f199.results.toList = [.tmp 2]:=rfl
 have hrts:Tryz.f199.resultTypes.toList = [2]:=rfl
 simp only [List.length_cons,List.length_nil,jL,if_true,qU,qT,eL,eI,eLL,eB,Nat.zero_add,Nat.reduceAdd]
 intro M og cap
 refine qJ.of ?_
 refine gw176 (kk 5) (Y7 hdr hd0 hd1 e0 e1 w1 w2) ?_
 exact gw158
def vF (code:List Int) (most:Int):Nat→(Nat × Int)→Elt→Elt × (Nat × Int)
 | 0,s,e => (e,s)
 | k + 1,s,e =>
  let a:=numF code s
  let f:=yI code a.2 most
  vF code most k f.2 (putS cmpF e a.1 f.1)
def kB (code:List Int) (s:Nat × Int) (parts most:Int):Elt × (Nat × Int) :=
 let n:=nxtF code s (parts + 1)
 vF code most n.1.toNat n.2 []
structure EOk (n m:Nat) (e:Elt):Prop where
 len:e.length ≤ n
 ok:∀ q ∈ e,(1 ≤ q.1∧q.1 < 10007)∧FOk m q.2∧q.2.length ≤ m
theorem EOk.okE {n m:Nat} (hm:m ≤ 8) {e:Elt} (h:EOk n m e):∀ q ∈ e,(1 ≤ q.1∧q.1 < 10007)∧SmF q.2:=fun q hq => by
 obtain ⟨h1,h2,h3⟩:=h.ok q hq
 have:=h2.sum
 exact ⟨h1,by omega,by omega⟩
theorem putS_len' (c:List (List Int)→List (List Int)→Int) (k:Int) (x:List (List Int)):∀ (e:Elt),(putS c e k x).length ≤ e.length + 1
 | [] => by unfold putS;split <;> simp
 | (a,y) :: L => by
  have ih:=putS_len' c k x L
  unfold putS
  repeat' split
  all_goals simp only [List.length_cons] at ih ⊢
  all_goals omega
theorem putS_coefs {k:Int} {x:List (List Int)} (hk:0 ≤ k∧k < 10007):∀ {L:Elt},(∀ q ∈ L,1 ≤ q.1∧q.1 < 10007)→∀ q ∈ putS cmpF L k x,1 ≤ q.1∧q.1 < 10007
 | [],_ => by
  unfold putS
  split
  ·exact fun q hq => nomatch hq
  ·intro q hq
   rw [List.mem_singleton] at hq;subst hq
   simp only;omega
 | (a,y) :: L,he => by
  have ha:=he (a,y) (by simp)
  have hL:∀ q ∈ L,1 ≤ q.1∧q.1 < 10007:=fun q hq => he q (by simp [hq])
  unfold putS
  split
  ·exact he
  ·split
   ·intro q hq
    rcases List.mem_cons.1 hq with rfl|hq
    ·simp only;omega
    ·exact he q hq
   ·split
    ·split
     ·exact hL
     ·intro q hq
      rcases List.mem_cons.1 hq with rfl|hq
      ·have:=jD (a + k);simp only;omega
      ·exact hL q hq
    ·intro q hq
     rcases List.mem_cons.1 hq with rfl|hq
     ·exact ha
     ·exact putS_coefs hk hL q hq
theorem EOk.put {n m:Nat} {e:Elt} (h:EOk n m e) {k:Int} (hk:0 ≤ k∧k < 10007) {f:List (List Int)} (hf:FOk m f):EOk (n + 1) m (putS cmpF e k f):=by
 refine ⟨Nat.le_trans (putS_len' cmpF k f e) (by have:=h.len;omega),fun q hq => ⟨putS_coefs hk (fun q hq => (h.ok q hq).1) q hq,?_⟩⟩
 have key:FOk m q.2:=by
  rcases putS_mem e k f hq with h1|⟨p,h1,h2⟩
  ·rw [h1];exact hf
  ·rw [← h2];exact (h.ok p h1).2.1
 exact ⟨key,Nat.le_trans (qH0 key.lev) key.sum⟩
theorem drawElN_ok {code:List Int} (hc:jT code) {most:Int}:∀ (k:Nat) {s:Nat × Int} {e:Elt} {n:Nat},EOk n most.toNat e→s.1 ≤ code.length→EOk (n + k) most.toNat (vF code most k s e).1∧(vF code most k s e).2.1 ≤ code.length
 | 0,_,_,_,h,hs => ⟨h,hs⟩
 | k + 1,s,e,n,h,hs => by
  obtain ⟨h1,h2⟩:=numF_ok hc hs
  obtain ⟨h3,h4⟩:=yP0 hc (m:=most) h2
  have:=drawElN_ok hc (most:=most) k (h.put h1 h3) h4
  rw [show n + (k + 1) = n + 1 + k by omega]
  exact this
theorem drawElF_ok {code:List Int} (hc:jT code) {s:Nat × Int} {parts most:Int} (hs:s.1 ≤ code.length) (hp:0 ≤ parts):EOk parts.toNat most.toNat (kB code s parts most).1∧(kB code s parts most).2.1 ≤ code.length:=by
 have hb:=yZ hc s (parts + 1)
 have h:=drawElN_ok hc (most:=most) (nxtF code s (parts + 1)).1.toNat (s:=(nxtF code s (parts + 1)).2) (e:=[]) (n:=0) ⟨Nat.le_refl _,fun q hq => nomatch hq⟩ (jB hs)
 refine ⟨⟨Nat.le_trans h.1.len (by omega),h.1.ok⟩,h.2⟩
def drawElG (code:List Int) (s:Nat × Int) (parts most:Int):List Res × (Nat × Int):=([.own 2 ((kB code s parts most).1.map ePt) false],(kB code s parts most).2)
theorem p_l06Draw {code:List Int} (hc:jT code) (hl:code.length ≤ 1000000000):xF Tryz.prog 146 code (drw2 (drawElG code)):=by
 refine drw2_of fun s parts most hs hp0 hp1 hm0 hm1 => ?_
 have hpin:=vE hc hl
 have hnm:=(p_l01Number hc hl).ok
 have hdf:=(kG0 hc hl).ok
 have hdr:=yR code s (parts + 1) hs
 have hbd:=yZ hc s (parts + 1)
 have hat:=jB (n:=parts + 1) hs
 have w0:w64 (parts + 1) = parts + 1:=qL (by omega)
 unfold drawElG kB
 obtain ⟨⟨kk,s1⟩,hp⟩:∃ p,p = nxtF code s (parts + 1):=⟨_,rfl⟩
 rw [← hp] at hdr hbd hat ⊢
 simp only at hdr hbd hat ⊢
 obtain ⟨k,rfl⟩:∃ k:Nat,kk = k:=⟨kk.toNat,by omega⟩
 rw [Int.toNat_natCast]
 have hk:k ≤ 10:=by omega
 simp only [eI] at hdr
 refine AEp.of_runs (qX 26) Tryz.func146 rfl rfl rfl (fun _ => rfl) gz ?_
 have hres:Tryz.f146.results.toList = [.tmp 6]:=rfl
 have hrts:Tryz.f146.resultTypes.toList = [50]:=rfl
 simp only [List.length_cons,List.length_nil,jL,if_true,qU,qT,eL,eI,eLL,eB,Nat.zero_add,Nat.reduceAdd]
 intro M og cap
 refine qJ.of ?_
 refine gw157 (kk 9) (Yp hdr w0) ?_
 refine qJ.loop (β:=Nat × (Nat × Int) × Elt) (γ:=Elt × (Nat × Int)) (fun x => ⟨[(0,.optr 0 0 0),(2,.c (.val (.int most))),(7,.c (.own 7 x.2.2.length)),(8,.c (.val (.int x.1)))],[(0,.pin og cap 3 [srcD code x.2.1]),(7,.row 2 (x.2.2.map ePt) false)]⟩)
  (fun x => x.1 ≤ k∧x.2.1.1 ≤ code.length∧EOk (k - x.1) most.toNat x.2.2∧vF code most x.1 x.2.1 x.2.2 = vF code most k s1 []) (fun x => x.1)
  (fun z => ⟨[(0,.optr 0 0 0),(7,.c (.own 7 z.1.length))],[(0,.pin og cap 3 [srcD code z.2]),(7,.row 2 (z.1.map ePt) false)]⟩) (fun z => z = vF code most k s1 []) (k,s1,[]) ⟨Nat.le_refl _,hat,⟨by simp,fun q hq => nomatch hq⟩,rfl⟩ ?_ ?_ ?_
 ·exact gw163
 ·rintro ⟨j,s,e⟩ ⟨hj,hs,he,hgr⟩
  simp only at hj hs he hgr
  by_cases h0:0 < j
  ·obtain ⟨j,rfl⟩:∃ i,j = i + 1:=⟨j - 1,by omega⟩
   have i1:(((j + 1:Nat):Int) > 0) = True:=eq_true (by omega)
   have hd1:=drw0_eq (G:=numG code) hs
   obtain ⟨h1,h2⟩:=numF_ok hc hs
   have hd2:=qQ0 (G:=vM code) h2 (m:=most) (by omega)
   obtain ⟨h3,h4⟩:=yP0 hc (m:=most) h2
   have hgr:vF code most j (yI code (numF code s).2 most).2 (putS cmpF e (numF code s).1 (yI code (numF code s).2 most).1) = vF code most k s1 []:=hgr
   have e1:numG code s = ([.val (.int (numF code s).1)],(numF code s).2):=rfl
   rw [e1] at hd1
   obtain ⟨⟨a,s2⟩,hp⟩:∃ p,p = numF code s:=⟨_,rfl⟩
   rw [← hp] at hd1 hd2 h1 h2 h3 h4 hgr
   simp only at hd1 hd2 h1 h2 h3 h4 hgr
   have e2:vM code s2 most = ([.own 1 ((yI code s2 most).1.map eL) true],(yI code s2 most).2):=rfl
   rw [e2] at hd2
   obtain ⟨⟨f,s3⟩,hp⟩:∃ p,p = yI code s2 most:=⟨_,rfl⟩
   rw [← hp] at hd2 h3 h4 hgr
   simp only at hd2 h3 h4 hgr
   have hnext:=he.put h1 h3
   have hsm:SmF f:=by
    have g1:=qH0 h3.lev
    have g2:=h3.sum
    exact ⟨by omega,by omega⟩
   have hel:=he.len
   have hput:=a_l06PutO e a f (by omega) (he.okE (by omega)) h1 hsm
   have w4:w64 (((j + 1:Nat):Int) - 1) = j:=by rw [qL (by omega)];omega
   simp only [eI,eLL] at hput
   ((refine gw88 (kk 9) i1 ?_);with_reducible (apply QS (qX 26) Tab.none;refine QW ?_;simp only [Zg,Zi,seval,i1];rfl);(refine gw88 (kk 9) i1 ?_))
   ((refine gw177 (kk 9) (Y3 hd1 hd2 i1) ?_);(with_reducible refine qJ.regCut (qX 26) (((Tab.none.pin 82 (nxtE code) hpin).pin 199 (drwE code (drw0 (numG code))) hnm).pin 125 (drwE code (drw1 (vM code))) hdf) 6 (s1:=?_) ?_ ?_);rotate_left 1;(focus ((with_reducible refine QW ?_);simp only [Zg,Zi,seval,hd1,hd2,drwE,nxtE,i1];with_reducible rfl));simp only [List.toList_toArray,List.drop_succ_cons,List.drop_zero])
   refine qW.frzs [23] ?_
   (refine qW.opsT (qX 26) (T:=Tab.none.own' 137 0 hput) (s':=?_) ?_ ?_;rotate_left 1;focus (simp only [Zg,Zi,seval,Tab.own',wE];with_reducible rfl))
   refine gw7 (kk 9) w4 ?_
   refine qY.on (j,s3,putS cmpF e a f) ⟨⟨by omega,h4,?_,hgr⟩,by simp⟩ ?_
   ·rw [show k - j = k - (j + 1) + 1 by omega];exact hnext
   exact gw178
  ·obtain rfl:j = 0:=by omega
   have i1:(((0:Nat):Int) > 0) = False:=eq_false (by omega)
   refine gw7 (kk 9) i1 ?_
   refine qY.out (e,s) hgr ?_
   exact gw159
 rintro z rfl
 refine gw7 (kk 9) Y0 ?_
 exact gw158
def vY:List Int:=[0,-1,10007]
def kP (code:List Int) (s:Nat × Int) (parts most:Int):Elt × (Nat × Int) :=
 let e:=kB code s parts most
 let c:=nxtF code e.2 24
 if c.1 = 0 then
  let k:=nxtF code c.2 2
  let f:=vX code k.2 most
  (e.1 ++ [(k.1,f.1)],f.2)
 else if c.1 = 1 then
  if 0 < e.1.length then
   let p:=pickF code c.2 vY
   (e.1.set 0 (p.1,(e.1.getD 0 (0,[])).2),p.2)
  else (e.1,c.2)
 else (e.1,c.2)
structure EAOk (n m:Nat) (e:Elt):Prop where
 len:e.length ≤ n
 ok:∀ q ∈ e,(-1 ≤ q.1∧q.1 ≤ 10007)∧FAOk m q.2
theorem EOk.any {n m:Nat} {e:Elt} (h:EOk n m e):EAOk (n + 1) (m + 13) e:=⟨by have:=h.len;omega,fun q hq => by
 obtain ⟨h1,h2,h3⟩:=h.ok q hq
 have:=h2.sum
 exact ⟨by omega,⟨by omega,by omega⟩⟩⟩
theorem drawElAnyF_ok {code:List Int} (hc:jT code) {s:Nat × Int} {parts most:Int} (hs:s.1 ≤ code.length) (hp:0 ≤ parts):EAOk (parts.toNat + 1) (most.toNat + 13) (kP code s parts most).1∧(kP code s parts most).2.1 ≤ code.length:=by
 obtain ⟨h1,h2⟩:=drawElF_ok hc (most:=most) hs hp
 unfold kP
 obtain ⟨e,he⟩:∃ e,e = kB code s parts most:=⟨_,rfl⟩
 rw [← he] at h1 h2 ⊢
 simp only
 have ha:=h1.any
 have h3:=jB (n:=24) h2
 split
 ·have h4:=jB (n:=2) h3
  have h5:=yZ hc (nxtF code e.2 24).2 2
  obtain ⟨h6,h7⟩:=drawForAnyF_ok hc (m:=most) h4
  refine ⟨⟨by have:=h1.len;simp;omega,fun q hq => ?_⟩,h7⟩
  rcases List.mem_append.1 hq with hq|hq
  ·exact ha.ok q hq
  ·obtain rfl:=List.mem_singleton.1 hq
   exact ⟨by simp only;omega,h6⟩
 ·split
  ·split
   ·rename_i h0
    obtain ⟨h6,h7⟩:=pickF_ok hc h3 (l:=vY) (by decide)
    refine ⟨⟨by rw [List.length_set];exact ha.len,fun q hq => ?_⟩,h7⟩
    rcases List.mem_or_eq_of_mem_set hq with hq|rfl
    ·exact ha.ok q hq
    ·refine ⟨?_,?_⟩
     ·generalize (pickF code (nxtF code e.2 24).2 vY).1 = x at h6
      unfold vY at h6
      simp only [List.mem_cons,List.not_mem_nil,or_false] at h6
      (try simp only)
      omega
     ·have e0:e.1.getD 0 (0,[]) = e.1[0]:=by rw [List.getD_eq_getElem?_getD,List.getElem?_eq_getElem h0];rfl
      rw [e0]
      exact (ha.ok e.1[0] (List.getElem_mem _)).2
   ·exact ⟨ha,h3⟩
  ·exact ⟨ha,h3⟩
def jU0 (code:List Int) (s:Nat × Int) (parts most:Int):List Res × (Nat × Int):=([.own 2 ((kP code s parts most).1.map ePt) false],(kP code s parts most).2)
theorem p_l06DrawAny {code:List Int} (hc:jT code) (hl:code.length ≤ 1000000000):xF Tryz.prog 81 code (drw2 (jU0 code)):=by
 refine drw2_of fun s parts most hs hp0 hp1 hm0 hm1 => ?_
 have hpin:=vE hc hl
 have hpk:=(p_l01Pick hc hl).ok
 have hdw:=(p_l06Draw hc hl).ok
 have hfa:=(vU0 hc hl).ok
 have hd0:=drw2_eq (G:=drawElG code) hs (a:=parts) (m:=most) ⟨⟨hp0,hp1⟩,hm0,hm1⟩
 obtain ⟨h1,h2⟩:=drawElF_ok hc (most:=most) hs hp0
 have hdr:=yR code (kB code s parts most).2 24 h2
 have hat:=jB (n:=24) h2
 unfold jU0 kP
 have e0:drawElG code s parts most = ([.own 2 ((kB code s parts most).1.map ePt) false],(kB code s parts most).2):=rfl
 rw [e0] at hd0
 obtain ⟨⟨e,s1⟩,hp⟩:∃ p,p = kB code s parts most:=⟨_,rfl⟩
 rw [← hp] at h1 h2 hdr hat hd0 ⊢
 simp only at h1 h2 hdr hat hd0 ⊢
 obtain ⟨⟨c,s2⟩,hq⟩:∃ p,p = nxtF code s1 24:=⟨_,rfl⟩
 rw [← hq] at hdr hat ⊢
 simp only [eI] at hdr hat ⊢
 have hel:=h1.len
 have hem:(e.map ePt).length = e.length:=List.length_map _
 have q1:=jW (n:=e.length + 1) (by omega)
 have q2:=jZ (n:=e.length + 1) (c:=32) (by omega) (by omega)
 by_cases c0:c = 0
 ·subst c0
  have hd1:=yR code s2 2 hat
  have ha1:=jB (n:=2) hat
  obtain ⟨⟨k,s3⟩,hk⟩:∃ p,p = nxtF code s2 2:=⟨_,rfl⟩
  rw [← hk] at hd1 ha1 ⊢
  simp only [eI,if_true] at hd1 ha1 ⊢
  have hd2:=qQ0 (G:=jC0 code) ha1 (m:=most) (by omega)
  have e2:jC0 code s3 most = ([.own 1 ((vX code s3 most).1.map eL) false],(vX code s3 most).2):=rfl
  rw [e2] at hd2
  obtain ⟨⟨f,s4⟩,hf⟩:∃ p,p = vX code s3 most:=⟨_,rfl⟩
  rw [← hf] at hd2 ⊢
  simp only at hd2 ⊢
  rw [show (e ++ [(k,f)]).map ePt = e.map ePt ++ [[D.int k,D.sl 1 (f.map eL)]] by rw [List.map_append];rfl]
  refine AEp.of_runs (qX 37) Tryz.func81 rfl rfl rfl (fun _ => rfl) gz ?_
  have hres:Tryz.f81.results.toList = [.tmp 6]:=rfl
  have hrts:Tryz.f81.resultTypes.toList = [50]:=rfl
  simp only [List.length_cons,List.length_nil,jL,if_true,qU,qT,eL,eI,eLL,eB,Nat.zero_add,Nat.reduceAdd]
  intro M og cap
  refine qJ.of ?_
  refine gw179 (kk 14) (Y7 hdr hd0 hd1 hd2 hem q1 q2) ?_
  exact gw158
 have f0:(c == 0) = false:=by simp [c0]
 by_cases c1:c = 1
 ·subst c1
  rw [if_neg c0,if_pos rfl]
  by_cases hpos:0 < e.length
  ·have hd1:=drwL_eq (G:=pickG code) hat (l:=vY) (by decide) (by decide)
   have e2:pickG code s2 vY = ([.val (.int (pickF code s2 vY).1)],(pickF code s2 vY).2):=rfl
   rw [e2] at hd1
   rw [if_pos hpos]
   obtain ⟨⟨x,s3⟩,hx⟩:∃ p,p = pickF code s2 vY:=⟨_,rfl⟩
   rw [← hx] at hd1 ⊢
   simp only [vY,List.map_cons,List.map_nil,eI] at hd1 ⊢
   have j1:((e.length:Int) > 0) = True:=eq_true (by omega)
   have j2:((0:Int) < (e.length:Int)) = True:=eq_true (by omega)
   have j3:((0:Int) ≤ 0) = True:=eq_true (by omega)
   have j4:(0:Int).toNat = 0:=rfl
   have eg:e.getD 0 (0,[]) = e[0]:=by rw [List.getD_eq_getElem?_getD,List.getElem?_eq_getElem hpos];rfl
   obtain ⟨y,hy⟩:∃ y,y = e[0]:=⟨_,rfl⟩
   rw [eg,← hy]
   have hg:(e.map ePt)[0]? = some [.int y.1,.sl 1 (y.2.map eL)]:=by rw [List.getElem?_map,List.getElem?_eq_getElem hpos,← hy];rfl
   have hset:(e.map ePt).set 0 [.int x,.sl 1 (y.2.map eL)] = (e.set 0 (x,y.2)).map ePt:=by rw [List.map_set];rfl
   rw [← hset]
   refine AEp.of_runs (qX 37) Tryz.func81 rfl rfl rfl (fun _ => rfl) gz ?_
   have hres:Tryz.f81.results.toList = [.tmp 6]:=rfl
   have hrts:Tryz.f81.resultTypes.toList = [50]:=rfl
   simp only [List.length_cons,List.length_nil,jL,if_true,qU,qT,eL,eI,eLL,eB,Nat.zero_add,Nat.reduceAdd]
   intro M og cap
   refine qJ.of ?_
   refine gw180 (kk 14) (Y5 hdr hd0 f0 hem j1) ?_
   ((refine gw88 (kk 14) Y0 ?_);(with_reducible refine qJ.regCut (qX 37) Tab.none 3 (s1:=?_) ?_ ?_);rotate_left 1;(focus ((with_reducible refine QW ?_);simp only [Zg,Zi,seval];with_reducible rfl));simp only [List.toList_toArray,List.drop_succ_cons,List.drop_zero])
   refine qW.frzs [32] ?_
   (refine qW.opsT (qX 37) (T:=Tab.none.pin 147 (drwE code (drwL (pickG code))) hpk) (s':=?_) ?_ ?_;rotate_left 1;focus (simp only [Zg,Zi,seval,hd1,drwE,hem,hg,j2,j3,j4];with_reducible rfl))
   refine gw7 (kk 14) Y0 ?_
   exact gw158
  ·rw [if_neg hpos]
   have j1:((e.length:Int) > 0) = False:=eq_false (by omega)
   refine AEp.of_runs (qX 37) Tryz.func81 rfl rfl rfl (fun _ => rfl) gz ?_
   have hres:Tryz.f81.results.toList = [.tmp 6]:=rfl
   have hrts:Tryz.f81.resultTypes.toList = [50]:=rfl
   simp only [List.length_cons,List.length_nil,jL,if_true,qU,qT,eL,eI,eLL,eB,Nat.zero_add,Nat.reduceAdd]
   intro M og cap
   refine qJ.of ?_
   refine gw180 (kk 14) (Y5 hdr hd0 f0 hem j1) ?_
   exact gw158
 have f1:(c == 1) = false:=by simp [c1]
 rw [if_neg c0,if_neg c1]
 refine AEp.of_runs (qX 37) Tryz.func81 rfl rfl rfl (fun _ => rfl) gz ?_
 have hres:Tryz.f81.results.toList = [.tmp 6]:=rfl
 have hrts:Tryz.f81.resultTypes.toList = [50]:=rfl
 simp only [List.length_cons,List.length_nil,jL,if_true,qU,qT,eL,eI,eLL,eB,Nat.zero_add,Nat.reduceAdd]
 intro M og cap
 refine qJ.of ?_
 refine gw180 (kk 14) (Y5 hdr hd0 f0 f1 hem) ?_
 exact gw158
noncomputable def TDwE {code:List Int} (hc:jT code) (hl:code.length ≤ 1000000000):Tab Tryz.prog :=
 (Tab.none.pin 82 (nxtE code) (vE hc hl)).pin 81 (drwE code (drw2 (jU0 code))) (p_l06DrawAny hc hl).ok
def drawCop (code:List Int):Elt:=(kP code (src0 code) 3 6).1
theorem drawCop_ok {code:List Int} (hc:jT code):EAOk 4 19 (drawCop code):=(drawElAnyF_ok hc (parts:=3) (most:=6) (Nat.zero_le _) (by decide)).1
theorem a_DrawAntipodeOf {code:List Int} (hc:jT code) (hl:code.length ≤ 1000000000):AFn Tryz.prog 56 [eCode code] (· = [.own 2 ((drawCop code).map ePt) false]):=by
 have hfrom:=p_l01From hc hl
 have hs:(src0 code).1 ≤ code.length:=Nat.zero_le _
 have hd1:=drw2_eq (G:=jU0 code) hs (a:=3) (m:=6) (by decide)
 unfold drawCop
 have e1:jU0 code (src0 code) 3 6 = ([.own 2 ((kP code (src0 code) 3 6).1.map ePt) false],(kP code (src0 code) 3 6).2):=rfl
 rw [e1] at hd1
 obtain ⟨⟨t,s1⟩,hp⟩:∃ p,p = kP code (src0 code) 3 6:=⟨_,rfl⟩
 rw [← hp] at hd1 ⊢
 simp only at hd1 ⊢
 simp only [eCode,dCode] at hfrom ⊢
 refine AFn.of_runs (qX 6) Tryz.func56 rfl rfl rfl gz ?_
 have hres:Tryz.f56.results.toList = [.tmp 2]:=rfl
 have hrts:Tryz.f56.resultTypes.toList = [50]:=rfl
 simp only [qU,qT,eL,eI,eLL,eB,Nat.zero_add,Nat.reduceAdd,eCode,dCode]
 intro M
 refine qJ.of ?_
 ((refine gw88 (kk 3) Y0 ?_);with_reducible (apply QS (qX 6) Tab.none;refine QW ?_;simp only [Zg,Zi,seval];rfl);(refine gw88 (kk 3) Y0 ?_))
 ((refine gw88 (kk 3) Y0 ?_);(with_reducible refine qJ.regCut (qX 6) Tab.none 1 (s1:=?_) ?_ ?_);rotate_left 1;(focus ((with_reducible refine QW ?_);simp only [Zg,Zi,seval];with_reducible rfl));simp only [List.toList_toArray,List.drop_succ_cons,List.drop_zero])
 refine qW.callR (qX 6) rfl (d:=4) rfl (by decide) rfl rfl rfl rfl hfrom rfl ?_
 intro b
 (refine qW.opsT (qX 6) (T:=TDwE hc hl) (s':=?_) ?_ ?_;rotate_left 1;focus (simp only [Zg,Zi,seval,TDwE,hd1,drwE,nxtE,srcD_len];with_reducible rfl))
 refine gw7 (kk 3) Y0 ?_
 exact gw8
theorem getD_ltn {l:List Int} {i:Nat} (h:i < l.length):l.getD i 0 = l[i]:=by rw [List.getD_eq_getElem?_getD,List.getElem?_eq_getElem h];rfl
theorem mapI_get {l:List Int} {i:Nat} (h:i < l.length):(l.map eI)[i]? = some [.int (l.getD i 0)]:=by rw [List.getElem?_map,List.getElem?_eq_getElem h,getD_ltn h];rfl
theorem a_likeInts (xs ys:List Int) (hsz:xs.length ≤ 1000000000):AFn Tryz.prog 101 [eL xs,eL ys] (· = [.val (.bool (decide (xs = ys)))]):=by
 have hx:(xs.map eI).length = xs.length:=List.length_map _
 have hy:(ys.map eI).length = ys.length:=List.length_map _
 by_cases hl:xs.length = ys.length
 rotate_left
 ·have hne:xs ≠ ys:=fun e => hl (by rw [e])
  have b:(((xs.length:Nat):Int) != ((ys.length:Nat):Int)) = true:=bne_iff_ne.2 (by omega)
  rw [decide_eq_false hne]
  refine AFn.of_runs (qX 26) Tryz.func101 rfl rfl rfl gz ?_
  have hres:Tryz.f101.results.toList = [.tmp 4]:=rfl
  have hrts:Tryz.f101.resultTypes.toList = [4]:=rfl
  simp only [qU,qT,eL,eI,eLL,eB,Nat.zero_add,Nat.reduceAdd]
  intro M
  refine qJ.of ?_
  refine gw29 (kk 6) (Y3 b hx hy) ?_
  exact gw8
 have b:(((ys.length:Nat):Int) != ((ys.length:Nat):Int)) = false:=by simp
 refine AFn.of_runs (qX 26) Tryz.func101 rfl rfl rfl gz ?_
 have hres:Tryz.f101.results.toList = [.tmp 4]:=rfl
 have hrts:Tryz.f101.resultTypes.toList = [4]:=rfl
 simp only [qU,qT,eL,eI,eLL,eB,Nat.zero_add,Nat.reduceAdd]
 intro M
 refine qJ.of ?_
 refine gw29 (kk 6) (Y4 b hx hy hl) ?_
 refine qJ.loop (β:=Nat) (γ:=Unit) (fun i => ⟨[(0,.c (.val (.sl 1 (xs.map eI)))),(1,.c (.val (.sl 1 (ys.map eI)))),(5,.c (.val (.int i)))],[]⟩) (fun i => i ≤ xs.length∧xs.take i = ys.take i) (fun i => xs.length - i)
  (fun _ => ⟨[],[]⟩) (fun _ => xs = ys) 0 ⟨Nat.zero_le _,rfl⟩ ?_ ?_ ?_
 ·exact gw181
 ·rintro i ⟨hi,ht⟩
  have hw:=qD (n:=i) (by omega)
  by_cases h:i < xs.length
  ·have i1:((i:Int) < (ys.length:Int)) = True:=eq_true (by omega)
   have i2:((0:Int) ≤ (i:Int)) = True:=eq_true (by omega)
   have g1:=mapI_get h
   have g2:=mapI_get (l:=ys) (i:=i) (by omega)
   by_cases he:xs.getD i 0 = ys.getD i 0
   ·have e0:(xs.getD i 0 != ys.getD i 0) = false:=by rw [he];simp only [bne_self_eq_false]
    refine gw38 (kk 6) (Y9 i1 i2 g1 g2 hx hy hl hw e0) ?_
    refine qY.on (i + 1) ⟨⟨h,?_⟩,by omega⟩ ?_
    ·rw [getD_ltn h,getD_ltn (by omega)] at he
     rw [List.take_succ_eq_append_getElem h,List.take_succ_eq_append_getElem (by omega),ht,he]
    exact gw6 Y0
   ·have e0:(xs.getD i 0 != ys.getD i 0) = true:=bne_iff_ne.2 he
    have hne:xs ≠ ys:=fun e => he (by rw [e])
    rw [decide_eq_false hne]
    refine gw38 (kk 6) (Y9 i1 i2 g1 g2 hx hy hl hw e0) ?_
    refine qY.ret ?_
    refine gw29 (kk 6) Y0 ?_
    exact gw8
  ·have i1:((i:Int) < (ys.length:Int)) = False:=eq_false (by omega)
   refine gw29 (kk 6) (Y3 i1 hx hl) ?_
   refine qY.out () ?_ ?_
   ·rw [List.take_of_length_le (by omega),List.take_of_length_le (by omega)] at ht
    exact ht
   exact gw6 Y0
 ·intro _ he
  rw [decide_eq_true he]
  refine gw29 (kk 6) Y0 ?_
  exact gw8
theorem a_same9 (f g:List (List Int)) (hf:f.length ≤ 1000000000) (hg:g.length ≤ 1000000000) (hsz:∀ t ∈ f,t.length ≤ 1000000000):AFn Tryz.prog 45 [eLL f,eLL g] (· = [.val (.bool (decide (f = g)))]):=by
 have hfm:(f.map eL).length = f.length:=List.length_map _
 have hgm:(g.map eL).length = g.length:=List.length_map _
 refine AFn.of_runs (qX 27) Tryz.func45 rfl rfl rfl gz ?_
 have hres:Tryz.f45.results.toList = [.tmp 4]:=rfl
 have hrts:Tryz.f45.resultTypes.toList = [4]:=rfl
 simp only [qU,qT,eL,eI,eLL,eB,Nat.zero_add,Nat.reduceAdd]
 intro M
 refine qJ.of ?_
 by_cases hl:f.length = g.length
 ·have hb:((f.length:Int) != (g.length:Int)) = false:=by simp [hl]
  refine gw29 (kk 6) (Y3 hfm hgm hb) ?_
  refine qJ.loop (β:=Nat) (γ:=Unit) (fun i => ⟨[(0,.c (.val (.sl 1 (f.map eL)))),(1,.c (.val (.sl 1 (g.map eL)))),(5,.c (.val (.int i)))],[]⟩) (fun i => i ≤ f.length∧f.take i = g.take i) (fun i => f.length - i)
   (fun _ => ⟨[],[]⟩) (fun _ => f = g) 0 ⟨Nat.zero_le _,rfl⟩ ?_ ?_ ?_
  ·exact gw181
  ·rintro i ⟨hi,ht⟩
   have hw:=qD (n:=i) (by omega)
   by_cases h:i < f.length
   ·have h2:i < g.length:=by omega
    have i1:((i:Int) < (f.length:Int)) = True:=eq_true (by omega)
    have i1':((i:Int) < (g.length:Int)) = True:=eq_true (by omega)
    have i2:((0:Int) ≤ (i:Int)) = True:=eq_true (by omega)
    obtain ⟨s,hs⟩:∃ s,s = f[i]:=⟨_,rfl⟩
    obtain ⟨t,htt⟩:∃ t,t = g[i]:=⟨_,rfl⟩
    have hgs:(f.map eL)[i]? = some [.sl 1 (s.map eI)]:=by rw [qE h,hs];rfl
    have hgt:(g.map eL)[i]? = some [.sl 1 (t.map eI)]:=by rw [qE h2,htt];rfl
    have hsm:=a_likeInts s t (by rw [hs];exact hsz _ (List.getElem_mem _))
    simp only [eL] at hsm
    by_cases hst:s = t
    ·rw [decide_eq_true hst] at hsm
     refine gw182 (kk 6) (Y8 hfm hgm i1 i1' i2 hgs hgt hw) ?_
     refine qY.on (i + 1) ⟨⟨h,?_⟩,by omega⟩ ?_
     ·rw [List.take_succ_eq_append_getElem h,List.take_succ_eq_append_getElem h2,ht,← hs,← htt,hst]
     ·exact gw6 Y0
    ·rw [decide_eq_false hst] at hsm
     have hne:f ≠ g:=fun e => hst (by rw [hs,htt];subst e;rfl)
     rw [decide_eq_false hne]
     refine gw182 (kk 6) (Y8 hfm hgm i1 i1' i2 hgs hgt hw) ?_
     refine qY.ret ?_
     refine gw29 (kk 6) Y0 ?_
     exact gw8
   ·have i1:((i:Int) < (f.length:Int)) = False:=eq_false (by omega)
    obtain rfl:i = f.length:=by omega
    refine gw29 (kk 6) (Yp hfm i1) ?_
    refine qY.out () ?_ ?_
    ·rw [List.take_length,hl,List.take_length] at ht;exact ht
    ·exact gw6 Y0
  ·rintro _ hfg
   rw [decide_eq_true hfg]
   refine gw29 (kk 6) Y0 ?_
   exact gw8
 ·have hb:((f.length:Int) != (g.length:Int)) = true:=by simp;omega
  have hne:f ≠ g:=fun e => hl (by rw [e])
  rw [decide_eq_false hne]
  refine gw29 (kk 6) (Y3 hfm hgm hb) ?_
  exact gw8
def SzE (d:Elt):Prop:=d.length ≤ 1000000∧∀ q ∈ d,q.2.length ≤ 1000000∧∀ t ∈ q.2,t.length ≤ 1000000
theorem a_likeParts9 (d e:Elt) (hd:SzE d) (he:SzE e):AFn Tryz.prog 35 [[.sl 2 (d.map ePt)],[.sl 2 (e.map ePt)]] (· = [.val (.bool (decide (d = e)))]):=by
 have hdm:(d.map ePt).length = d.length:=List.length_map _
 have hem:(e.map ePt).length = e.length:=List.length_map _
 obtain ⟨hd1,hd2⟩:=hd
 obtain ⟨he1,he2⟩:=he
 refine AFn.of_runs (qX 42) Tryz.func35 rfl rfl rfl gz ?_
 have hres:Tryz.f35.results.toList = [.tmp 4]:=rfl
 have hrts:Tryz.f35.resultTypes.toList = [4]:=rfl
 simp only [qU,qT,eL,eI,eLL,eB,Nat.zero_add,Nat.reduceAdd]
 intro M
 refine qJ.of ?_
 by_cases hl:d.length = e.length
 rotate_left
 ·have hb:((d.length:Int) != (e.length:Int)) = true:=by simp;omega
  have hne:d ≠ e:=fun h => hl (by rw [h])
  rw [decide_eq_false hne]
  refine gw29 (kk 6) (Y3 hdm hem hb) ?_
  exact gw8
 have hb:((d.length:Int) != (e.length:Int)) = false:=by simp [hl]
 refine gw29 (kk 6) (Y3 hdm hem hb) ?_
 refine qJ.loop (β:=Nat) (γ:=Unit) (fun i => ⟨[(0,.c (.val (.sl 2 (d.map ePt)))),(1,.c (.val (.sl 2 (e.map ePt)))),(5,.c (.val (.int i)))],[]⟩) (fun i => i ≤ d.length∧d.take i = e.take i) (fun i => d.length - i)
  (fun _ => ⟨[],[]⟩) (fun _ => d = e) 0 ⟨Nat.zero_le _,rfl⟩ ?_ ?_ ?_
 ·exact gw181
 ·rintro i ⟨hi,ht⟩
  have hw:=qD (n:=i) (by omega)
  by_cases h:i < d.length
  ·have h2:i < e.length:=by omega
   have i1:((i:Int) < (d.length:Int)) = True:=eq_true (by omega)
   have i1':((i:Int) < (e.length:Int)) = True:=eq_true (by omega)
   have i2:((0:Int) ≤ (i:Int)) = True:=eq_true (by omega)
   obtain ⟨⟨a,f⟩,hs⟩:∃ s,s = d[i]:=⟨_,rfl⟩
   obtain ⟨⟨b,g⟩,htt⟩:∃ t,t = e[i]:=⟨_,rfl⟩
   have hgs:(d.map ePt)[i]? = some [.int a,.sl 1 (f.map eL)]:=by rw [qE h,← hs];rfl
   have hgt:(e.map ePt)[i]? = some [.int b,.sl 1 (g.map eL)]:=by rw [qE h2,← htt];rfl
   obtain ⟨f1,f2⟩:=hd2 (a,f) (by rw [hs];exact List.getElem_mem _)
   obtain ⟨g1,_⟩:=he2 (b,g) (by rw [htt];exact List.getElem_mem _)
   have hsm:=a_same9 f g (by simp only at f1;omega) (by simp only at g1;omega) (fun t ht => by have:=f2 t ht;omega)
   simp only [eLL] at hsm
   have hret:(a,f) ≠ (b,g)→d ≠ e:=fun hn he => hn (by rw [hs,htt];subst he;rfl)
   by_cases hab:a = b
   ·subst hab
    have haa:(a != a) = false:=by simp
    by_cases hst:f = g
    ·rw [decide_eq_true hst] at hsm
     refine gw183 (kk 6) (Y9 hdm hem i1 i1' i2 hgs hgt haa hw) ?_
     refine qY.on (i + 1) ⟨⟨h,?_⟩,by omega⟩ ?_
     ·rw [List.take_succ_eq_append_getElem h,List.take_succ_eq_append_getElem h2,ht,← hs,← htt,hst]
     ·exact gw6 Y0
    ·rw [decide_eq_false hst] at hsm
     rw [decide_eq_false (hret fun h => hst (Prod.ext_iff.1 h).2)]
     refine gw183 (kk 6) (Y9 hdm hem i1 i1' i2 hgs hgt haa hw) ?_
     refine qY.ret ?_
     refine gw29 (kk 6) Y0 ?_
     exact gw8
   ·have haa:(a != b) = true:=bne_iff_ne.2 hab
    rw [decide_eq_false (hret fun h => hab (Prod.ext_iff.1 h).1)]
    refine gw183 (kk 6) (Y9 hdm hem i1 i1' i2 hgs hgt haa hw) ?_
    refine qY.ret ?_
    refine gw29 (kk 6) Y0 ?_
    exact gw8
  ·have i1:((i:Int) < (d.length:Int)) = False:=eq_false (by omega)
   obtain rfl:i = d.length:=by omega
   refine gw29 (kk 6) (Yp hdm i1) ?_
   refine qY.out () ?_ ?_
   ·rw [List.take_length,hl,List.take_length] at ht;exact ht
   ·exact gw6 Y0
 ·rintro _ hfg
  rw [decide_eq_true hfg]
  refine gw29 (kk 6) Y0 ?_
  exact gw8
theorem EAOk.sz {n m:Nat} (hn:n ≤ 100) (hm:m ≤ 100) {e:Elt} (h:EAOk n m e):szP e:=by
 have h1:∀ (L:Elt),(∀ q ∈ L,FAOk m q.2)→szN L ≤ 202 * L.length:=fun L => by
  induction L with
  | nil => intro _;simp [szN]
  | cons q L ih =>
   intro hL
   have h2:=ih fun x hx => hL x (by simp [hx])
   have h3:=hL q (by simp)
   have h4:=h3.sum
   have h5:=h3.len
   show (q.2.length + qQ q.2) + szN L ≤ 202 * (L.length + 1)
   omega
 have h2:=h1 e fun q hq => (h.ok q hq).2
 have h3:=h.len
 unfold szP
 omega
structure MOk (n:Nat) (t:List Int):Prop where
 len:t.length = n
 bd:∀ x ∈ t,0 ≤ x∧x < 10007
theorem elB_sz {e:Elt} (h:elB e = true):szP e∧SzE e:=by
 obtain ⟨h1,_,_,h4⟩:=yE h
 have h6:∀ (L:Elt),(∀ q ∈ L,forB q.2 = true)→szN L ≤ 17 * L.length:=fun L => by
  induction L with
  | nil => intro _;simp [szN]
  | cons q L ih =>
   intro hL
   have h2:=ih fun x hx => hL x (by simp [hx])
   have h3:=forB_short (hL q (by simp))
   have h4:=(xU (hL q (by simp))).1
   show (q.2.length + qQ q.2) + szN L ≤ 17 * (L.length + 1)
   omega
 have h7:=h6 e h4
 refine ⟨by unfold szP;omega,by omega,fun q hq => ?_⟩
 have h3:=forB_short (h4 q hq)
 have h5:=(xU (h4 q hq)).1
 exact ⟨by omega,fun t ht => by have:=jK ht;omega⟩
structure AqI (lst:List (Int × Spl)) (i:Nat) (s:Elt):Prop where
 el:elB s = true
 eq:∀ F,Eqm (lin F s) (((lst.take i).map fun q => lin F (tenL q)).sum)
theorem aqI_nil (lst:List (Int × Spl)):AqI lst 0 []:=⟨rfl,fun F => Eqm.refl _⟩
theorem AqI.step {lst:List (Int × Spl)} {i:Nat} {s:Elt} (h:AqI lst i s) (hi:i < lst.length) (h2:elB (sumS cmpF (s ++ tenL lst[i])) = true):AqI lst (i + 1) (sumS cmpF (s ++ tenL lst[i])):=⟨h2,fun F => by
 rw [List.take_succ_eq_append_getElem hi,List.map_append,List.sum_append]
 refine (xM jV F _).trans ?_
 rw [jJ0]
 exact (h.eq F).add (Eqm.of (by simp))⟩
theorem AqI.fin {lst:List (Int × Spl)} {s e:Elt} (h:AqI lst lst.length s) (he:elB e = true) (hx:copOf e = (lst,0)):s = dueOf e :=
 ten_all he hx (yE h.el).2.1 fun F => by have:=h.eq F;rw [List.take_length] at this;exact this
theorem due_sz {e:Elt} (h:elB e = true):SzE (dueOf e):=by
 cases e with
 | nil => exact ⟨by simp [dueOf_nil],fun q hq => nomatch hq⟩
 | cons p L =>
  rw [yG0]
  split
  ·exact ⟨by simp,fun q hq => by obtain rfl:=List.mem_singleton.1 hq;simp⟩
  ·exact ⟨by simp,fun q hq => nomatch hq⟩
noncomputable def TAq:Tab Tryz.prog:=by
 classical
 exact (((((Tab.none.add 25 (tab1 (codS 2 codPt) fun e => if szP e then some [.val (.sl 2 ((antOf e).1.map ePt)),.val (.int (antOf e).2)] else none) (yA fun e rs h => by split at h;cases h;rename_i hs;exact AFn.valT2 (xP0 e hs);cases h)).add
  42 (tab1 (codS 2 codPt) fun e => if szP e then some [.val (.sl 3 ((copOf e).1.map eTe)),.val (.int (copOf e).2)] else none) (yA fun e rs h => by split at h;cases h;rename_i hs;exact AFn.valT2 (vV0 e hs);cases h)).add
  30 (tab2 (codS 2 codPt) (codS 2 codPt) fun d e => if szP d∧szP e then some [.val (.sl 2 ((timOf d e).1.map ePt)),.val (.int (timOf d e).2)] else none) (yH fun d e rs h => by split at h;cases h;rename_i hs;exact AFn.valT2 (kO0 d e hs.1 hs.2);cases h)).add
  38 (tab2 (codS 2 codPt) (codS 2 codPt) fun d e => if szP d∧szP e then some [.val (.sl 2 ((addOf d e).1.map ePt)),.val (.int (addOf d e).2)] else none) (yH fun d e rs h => by split at h;cases h;rename_i hs;exact AFn.valT2 (kM0 d e hs.1 hs.2);cases h)).add
  32 (tab1 (codS 2 codPt) fun e => if szP e then some [.val (.bool (elB e))] else none) (yA fun e rs h => by split at h;cases h;rename_i hs;exact qL0 e hs;cases h)).add
  35 (tab2 (codS 2 codPt) (codS 2 codPt) fun d e => if SzE d∧SzE e then some [.val (.bool (decide (d = e)))] else none) (yH fun d e rs h => by split at h;cases h;rename_i hs;exact a_likeParts9 d e hs.1 hs.2;cases h)
theorem a_FnAntipodes (code:List Int) (hc:jT code):AFn Tryz.prog 9 [eCode code] (· = [.val (.bool true)]):=by
 have hbg:=a_big code
 by_cases hbig:4096 < code.length
 ·rw [decide_eq_true hbig] at hbg
  simp only [eCode,dCode] at hbg
  refine AFn.of_runs (qX 151) Tryz.func9 rfl rfl rfl gz ?_
  have hres:Tryz.f9.results.toList = [.tmp 2]:=rfl
  have hrts:Tryz.f9.resultTypes.toList = [4]:=rfl
  simp only [qU,qT,eL,eI,eLL,eB,Nat.zero_add,Nat.reduceAdd,eCode,dCode]
  intro M
  refine qJ.of ?_
  refine gw184 (kk 21) ?_
  exact gw8
 rw [decide_eq_false hbig] at hbg
 have hl:code.length ≤ 1000000000:=by omega
 have hdr:=a_DrawAntipodeOf hc hl
 have hok:=drawCop_ok hc
 obtain ⟨e,hp⟩:∃ p,p = drawCop code:=⟨_,rfl⟩
 rw [← hp] at hdr hok
 have hsz:=hok.sz (by decide) (by decide)
 have t1:=eq_true hsz
 obtain ⟨fl,hsp⟩:=a_spec_AntipodeOf e hsz
 have hsp:=AFn.valB2 hsp
 have b0:((0:Int) != 0) = false:=by decide
 have b1:((1:Int) != 0) = true:=by decide
 have b3:((3:Int) != 0) = true:=by decide
 have b11:((1:Int) != 1) = false:=by decide
 have b33:((3:Int) != 3) = false:=by decide
 have b333:((3:Int) == 3) = true:=by decide
 have b00:((0:Int) == 0) = true:=by decide
 have b03:((0:Int) == 3) = false:=by decide
 simp only [eCode,dCode] at hbg hdr
 by_cases hE:elB e = true
 rotate_left
 ·have e1:=ant_bad hE
  rw [e1] at hsp
  refine AFn.of_runs (qX 151) Tryz.func9 rfl rfl rfl gz ?_
  have hres:Tryz.f9.results.toList = [.tmp 2]:=rfl
  have hrts:Tryz.f9.resultTypes.toList = [4]:=rfl
  simp only [qU,qT,eL,eI,eLL,eB,Nat.zero_add,Nat.reduceAdd,eCode,dCode]
  intro M
  refine qJ.of ?_
  refine gw185 (kk 21) (Y5 t1 e1 b1 b11 b00) ?_
  exact gw8
 rcases jD0 hE with ⟨han,hSE⟩|han
 rotate_left
 ·rw [han] at hsp
  refine AFn.of_runs (qX 151) Tryz.func9 rfl rfl rfl gz ?_
  have hres:Tryz.f9.results.toList = [.tmp 2]:=rfl
  have hrts:Tryz.f9.resultTypes.toList = [4]:=rfl
  simp only [qU,qT,eL,eI,eLL,eB,Nat.zero_add,Nat.reduceAdd,eCode,dCode]
  intro M
  refine qJ.of ?_
  refine gw185 (kk 21) (Y5 t1 han b3 b33 b00) ?_
  exact gw8
 obtain ⟨S,hS⟩:∃ S,S = sumS cmpF (antM e):=⟨_,rfl⟩
 rw [← hS] at han hSE
 rw [han] at hsp
 obtain ⟨zS,zS9⟩:=elB_sz hSE
 obtain ⟨_,zE9⟩:=elB_sz hE
 have t2:=eq_true zS
 have hem:(e.map ePt).length = e.length:=List.length_map _
 obtain ⟨lst,hlst⟩:∃ L,L = sumS cmpTe (copM e):=⟨_,rfl⟩
 have hco:=cop_case hE
 rw [← hlst] at hco
 rcases jD0 hSE with ⟨hba,_⟩|hba
 rotate_left
 ·rcases hco with hco|hco
  ·refine AFn.of_runs (qX 151) Tryz.func9 rfl rfl rfl gz ?_
   have hres:Tryz.f9.results.toList = [.tmp 2]:=rfl
   have hrts:Tryz.f9.resultTypes.toList = [4]:=rfl
   simp only [qU,qT,eL,eI,eLL,eB,Nat.zero_add,Nat.reduceAdd,eCode,dCode]
   intro M
   refine qJ.of ?_
   refine gw186 (kk 21) (Y9 t1 t2 han hba hco b0 b3 b333 b03) ?_
   exact gw8
  ·refine AFn.of_runs (qX 151) Tryz.func9 rfl rfl rfl gz ?_
   have hres:Tryz.f9.results.toList = [.tmp 2]:=rfl
   have hrts:Tryz.f9.resultTypes.toList = [4]:=rfl
   simp only [qU,qT,eL,eI,eLL,eB,Nat.zero_add,Nat.reduceAdd,eCode,dCode]
   intro M
   refine qJ.of ?_
   refine gw186 (kk 21) (Y9 t1 t2 han hba hco b0 b3 b333 b03) ?_
   exact gw8
 have hbk:=ant_back hE han hba
 rw [hbk] at hba
 rcases hco with hco|hco
 rotate_left
 ·refine AFn.of_runs (qX 151) Tryz.func9 rfl rfl rfl gz ?_
  have hres:Tryz.f9.results.toList = [.tmp 2]:=rfl
  have hrts:Tryz.f9.resultTypes.toList = [4]:=rfl
  simp only [qU,qT,eL,eI,eLL,eB,Nat.zero_add,Nat.reduceAdd,eCode,dCode]
  intro M
  refine qJ.of ?_
  refine gw186 (kk 21) (Y9 t1 t2 han hba hco b0 b3 b333 b03) ?_
  exact gw8
 have hLk:∀ q ∈ lst,OkF q.2.1∧OkF q.2.2∧qQ q.2.1 + qQ q.2.2 ≤ 8:=fun q hq => by rw [hlst] at hq;exact cop_key hE hq
 have hLr:∀ q ∈ lst,1 ≤ q.1∧q.1 < 10007:=fun q hq => by
  rw [hlst] at hq
  exact (xH yM0 (M:=copM e) fun q hq => by
   unfold copM at hq
   obtain ⟨p,_,hq⟩:=List.mem_flatMap.1 hq
   obtain ⟨z,_,rfl⟩:=List.mem_map.1 hq
   exact jD _).2 q hq
 have hLl:lst.length ≤ 100000:=by
  have h5:=copM_len e (yE hE).2.2.2
  have h6:=addT_len (copM e) []
  have h7:=(yE hE).1
  rw [hlst]
  show (addS cmpTe [] (copM e)).length ≤ _
  simp only [List.length_nil] at h6
  omega
 have hlm:(lst.map eTe).length = lst.length:=List.length_map _
 have s9:=eq_true zE9
 have dee:decide (e = e) = true:=by simp
 refine AFn.of_runs (qX 151) Tryz.func9 rfl rfl rfl gz ?_
 have hres:Tryz.f9.results.toList = [.tmp 2]:=rfl
 have hrts:Tryz.f9.resultTypes.toList = [4]:=rfl
 simp only [qU,qT,eL,eI,eLL,eB,Nat.zero_add,Nat.reduceAdd,eCode,dCode]
 intro M
 refine qJ.of ?_
 refine gw187 (kk 21) (Y11 t1 t2 han hba hco hSE s9 b0 b3 b333 b03) ?_
 refine qJ.frz 12 ?_
 refine qJ.loop (β:=Nat × Elt) (γ:=Elt) (fun x => ⟨[(3,.c (.val (.sl 2 (e.map ePt)))),(10,.c (.val (.sl 3 (lst.map eTe)))),(12,.c (.val (.sl 2 (x.2.map ePt)))),(13,.c (.val (.int x.1)))],[]⟩) (fun x => x.1 ≤ lst.length∧AqI lst x.1 x.2) (fun x => lst.length - x.1)
  (fun z => ⟨[(3,.c (.val (.sl 2 (e.map ePt)))),(12,.c (.val (.sl 2 (z.map ePt))))],[]⟩) (fun z => z = dueOf e) (0,[]) ⟨Nat.zero_le _,aqI_nil lst⟩ ?_ ?_ ?_
 ·exact gw188
 ·rintro ⟨i,s⟩ ⟨hi,hI⟩
  simp only at hi hI
  have hw:=qD (n:=i) (by omega)
  by_cases h:i < lst.length
  rotate_left
  ·have i1:((i:Int) < (lst.length:Int)) = False:=eq_false (by omega)
   obtain rfl:i = lst.length:=by omega
   refine gw29 (kk 21) (Yp i1 hlm) ?_
   refine qY.out s (hI.fin hE hco) ?_
   exact gw6 Y0
  have i1:((i:Int) < (lst.length:Int)) = True:=eq_true (by omega)
  have i2:((0:Int) ≤ (i:Int)) = True:=eq_true (by omega)
  obtain ⟨k1,k2,k3⟩:=hLk lst[i] (List.getElem_mem _)
  have k4:=hLr lst[i] (List.getElem_mem _)
  have hst:=hI.step h
  obtain ⟨q,hq⟩:∃ q,q = lst[i]:=⟨_,rfl⟩
  rw [← hq] at k1 k2 k3 k4 hst
  obtain ⟨l1,l2,l3,_⟩:=ten_left k4 k1 (by omega)
  obtain ⟨p1,p2,p3⟩:=ten_part k4 k1 k2 k3
  have hg:(lst.map eTe)[i]? = some [.int q.1,.sl 1 (q.2.1.map eL),.sl 1 (q.2.2.map eL)]:=by rw [List.getElem?_map,List.getElem?_eq_getElem h,← hq];rfl
  have h1:=AFn.valT2 (xP0 [(q.1,q.2.1)] (elB_sz (elB_one k4 k1 (by omega))).1)
  rw [l1] at h1
  have h2:=AFn.valT2 (kO0 (sumS cmpF (antM [(q.1,q.2.1)])) [(1,q.2.2)] (elB_sz l2).1 (elB_sz p1).1)
  rw [p2] at h2
  have h3:=AFn.valT2 (kM0 s (tenL q) (elB_sz hI.el).1 (elB_sz p3).1)
  simp only [List.map_cons,List.map_nil,ePt] at h1 h2
  obtain ⟨A,hA⟩:∃ A,A = sumS cmpF (antM [(q.1,q.2.1)]):=⟨_,rfl⟩
  obtain ⟨B,hB⟩:∃ B,B = tenL q:=⟨_,rfl⟩
  rw [← hA] at h1 h2
  rw [← hB] at h2 h3 p3 hst
  refine gw29 (kk 21) (Yp i1 hlm) ?_
  (((with_reducible refine qJ.wFz (qX 151) (Tab.none.at' 25 h1) qK [93,14] (tr:=?_) (s1:=?_) (rest:=?_) ?_ ?_ ?_);rotate_left 3;(focus ((with_reducible refine QW ?_);simp only [Zg,Zd,Zi,seval,drunF,kM,vV,valD,wZ,List.contains_cons,List.contains_nil,i1,i2,hlm,hg,Int.toNat_natCast];with_reducible rfl));focus ((with_reducible refine QK ?_);simp only [Zk];kernel_rfl));(refine qW.opsT (qX 151) (T:=(Tab.none.at' 25 h1)) (s':=?_) ?_ ?_;rotate_left 1;focus (simp only [Zg,Zi,seval,i1,i2,hlm,hg,Int.toNat_natCast];with_reducible rfl)))
  ((refine gw89 (kk 21) (Y4 i1 i2 hlm hg) ?_);(with_reducible refine qJ.regCut (qX 151) Tab.none 8 (s1:=?_) ?_ ?_);rotate_left 1;(focus ((with_reducible refine QW ?_);simp only [Zg,Zi,seval,i1,i2,hlm,hg,Int.toNat_natCast];with_reducible rfl));simp only [List.toList_toArray,List.drop_succ_cons,List.drop_zero])
  refine qW.frzs [105] ?_
  (refine qW.opsT (qX 151) (T:=Tab.none.at' 30 h2) (s':=?_) ?_ ?_;rotate_left 1;focus (simp only [Zg,Zi,seval];with_reducible rfl))
  rcases add_cases hI.el p3 with ⟨a1,a2⟩|a1
  ·rw [a1] at h3
   refine gw189 (kk 21) (Yp b0 hw) ?_
   refine qY.on (i + 1,sumS cmpF (s ++ B)) ⟨⟨h,hst a2⟩,by show lst.length - (i + 1) < lst.length - i;omega⟩ ?_
   exact gw6 Y0
  ·rw [a1] at h3
   refine gw189 (kk 21) (Y3 b0 b3 b333) ?_
   refine qY.ret ?_
   refine gw29 (kk 21) Y0 ?_
   exact gw8
 rintro z rfl
 have hdz:=due_sz hE
 have hlk:=a_likeParts9 (dueOf e) (dueOf e) hdz hdz
 rw [decide_eq_true rfl] at hlk
 cases e with
 | nil =>
  have j1:(((([]:Elt).length:Nat):Int) > 0) = False:=eq_false (by simp)
  simp only [dueOf_nil,List.map_nil] at hlk ⊢
  refine gw190 (kk 21) ?_
  exact gw8
 | cons p L =>
  have j1:((((p :: L).length:Nat):Int) > 0) = True:=eq_true (by simp only [List.length_cons];omega)
  have j2:((0:Int) < (((p :: L).length:Nat):Int)) = True:=eq_true (by simp only [List.length_cons];omega)
  have j3:((0:Int) ≤ 0) = True:=eq_true (by decide)
  have hg0:((p :: L).map ePt)[0]? = some [.int p.1,.sl 1 (p.2.map eL)]:=rfl
  have hp2:(p.2.map eL).length = p.2.length:=List.length_map _
  obtain ⟨X,hX⟩:∃ X,X = (p :: L).map ePt:=⟨_,rfl⟩
  obtain ⟨n,hn⟩:∃ n,n = (p :: L).length:=⟨_,rfl⟩
  rw [← hX,← hn] at hem
  rw [← hX] at hg0 ⊢
  rw [← hn] at j1 j2
  have q1:=jW (n:=1) (by omega)
  have q2:=jZ (n:=1) (c:=32) (by omega) (by omega)
  rw [yG0] at hlk ⊢
  by_cases h0:p.2 = []
  ·have k0:((p.2.length:Int) == 0) = true:=by rw [h0];rfl
   rw [if_pos h0] at hlk ⊢
   simp only [List.map_cons,List.map_nil,ePt] at hlk ⊢
   refine gw191 (kk 21) (Y9 j1 j2 j3 hem hg0 hp2 k0 q1 q2) ?_
   exact gw8
  ·have k0:((p.2.length:Int) == 0) = false:=beq_eq_false_iff_ne.2 (by have:=List.length_pos_iff.2 h0;omega)
   rw [if_neg h0] at hlk ⊢
   simp only [List.map_nil] at hlk ⊢
   refine gw191 (kk 21) (Y7 j1 j2 j3 hem hg0 hp2 k0) ?_
   exact gw8
theorem walk_FnAntipodes (v0:Value) (x0:List Int) (w:World) (h0:Rd RBytes w [v0] x0):Calls Tryz.prog 9 #[v0] w (RetV w (.bool true)):=law_code (fun code hc => a_FnAntipodes code hc) v0 x0 w h0
end Go.Proofs.YtedgfkpfhonlpaaGreat
