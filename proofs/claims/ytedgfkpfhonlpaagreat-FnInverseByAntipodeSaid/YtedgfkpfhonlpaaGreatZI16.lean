/- Lemmas (16). -/
import Derived.Laws.Small
import Derived.Test.YtedgfkpfhonlpaaGreatZI6
import Derived.Test.YtedgfkpfhonlpaaGreatZI7
import Derived.Test.YtedgfkpfhonlpaaGreatZI8
import Derived.Test.YtedgfkpfhonlpaaGreatZI9
import Derived.Test.YtedgfkpfhonlpaaGreatZI10
import Derived.Test.YtedgfkpfhonlpaaGreatZI12
import Derived.Test.YtedgfkpfhonlpaaGreatZI13
import Derived.Test.YtedgfkpfhonlpaaGreatZI14
import Derived.Test.YtedgfkpfhonlpaaGreatZI15
set_option maxHeartbeats 16000000
set_option maxRecDepth 100000
set_option linter.unusedSimpArgs false
set_option linter.unusedVariables false
namespace Go.Proofs.YtedgfkpfhonlpaaGreat
open Go.RowKit
structure FAOk (n:Nat) (f:List (List Int)):Prop where
 sum:qX f ≤ n
 len:f.length ≤ n
theorem AEp.forget {P:Program} {f:FuncId} {ptr:Bool} {k k':Nat} {xs xs0 ys:List (List D)} {post:List (List D)} (h:AEp P f ptr k xs post (fun r x => r = [.own k' ys true]∧x = xs0)):AEp P f ptr k xs post (fun r x => r = [.own k' ys false]∧x = xs0):=by
 refine ⟨h.call,fun A w us og cap ds a1 a2 a3 a4 a5 a6 => (h.fn A w us og cap ds a1 a2 a3 a4 a5 a6).mono ?_⟩
 rintro e w' ⟨v,rs,x',ds',us',G,X,rfl,⟨rfl,rfl⟩,hb,rfl,hG1,hG2,hrel,hlen,hrow,hrd⟩
 obtain ⟨v1,us1,G1,G2,Y1,Y2,rfl,e1,e2,ho,⟨og',cap',F,dd,rfl,hrow',hk',e3,e4,hel⟩,hend⟩:=hrel
 have hend:us1 = []∧G2 = []∧Y2 = []:=hend
 obtain ⟨rfl,rfl,rfl⟩:=hend
 have hel:ownR k' w' dd ys F:=hel
 rw [List.append_nil] at e1 e2
 have e3:G1 = og'.toList ++ F:=e3
 subst e3;subst e4;subst e1;subst e2
 refine ⟨_,_,_,ds',[_],og'.toList,og'.toList,rfl,⟨rfl,rfl⟩,hb,rfl,(List.nodup_append.1 hG1).1,fun b hb' => hG2 b (List.mem_append_left _ hb'),?_,hlen,hrow,hrd⟩
 refine ⟨_,[],og'.toList,[],og'.toList,[],rfl,by simp,by simp,ho,⟨og',cap',[],dd,rfl,hrow',hk',by simp,rfl,?_⟩,rfl,rfl,rfl⟩
 show rdR k' (fun b => (A b ∨ w.heap.size ≤ b)∧b ∉ og'.toList) w' dd ys
 exact hel.rd.mono (fun b hb' _ => ⟨.inr (hG2 b (List.mem_append_right _ hb')),fun h2 => (List.nodup_append.1 hG1).2.2 b h2 b hb' rfl⟩)
def powG:Nat→Int→Nat→Int→Int
 | 0,_,_,out => out
 | f + 1,a,k,out => if k = 0 then out else powG f (mP (a * a)) (k / 2) (if k % 2 = 1 then mP (out * a) else out)
theorem powG_zero (f:Nat) (a out:Int):powG f a 0 out = out:=by cases f <;> simp [powG]
theorem kI (n:Int):0 ≤ mP n∧mP n < 10007:=by unfold mP;omega
theorem powG_bd:∀ (f:Nat) (a:Int) (k:Nat) (out:Int),0 ≤ out∧out < 10007→0 ≤ powG f a k out∧powG f a k out < 10007
 | 0,_,_,_,h => h
 | f + 1,a,k,out,h => by
  unfold powG
  split
  ·exact h
  ·exact powG_bd f _ _ _ (by split;exact kI _;exact h)
theorem mul_bdW {a b:Int} (h1:0 ≤ a∧a < 10007) (h2:0 ≤ b∧b < 10007):0 ≤ a * b∧a * b ≤ 100140049:=by
 refine ⟨Int.mul_nonneg h1.1 h2.1,?_⟩
 have:=Int.mul_le_mul (a:=a) (b:=b) (c:=10007) (d:=10007) (by omega) (by omega) h2.1 (by omega)
 omega
theorem a_l01Pow (f:Nat) (a0:Int) (k0:Nat) (ha:0 ≤ a0∧a0 < 10007) (hk:k0 < 2 ^ f) (hk2:k0 ≤ 1000000000):AFn Tryz.prog 275 [eI a0,eI k0] (· = [.val (.int (powG f a0 k0 1))]):=by
 refine AFn.of_runs (qJ 20) Tryz.func275 rfl rfl rfl gz ?_
 have hres:Tryz.f275.results.toList = [.tmp 4]:=rfl
 have hrts:Tryz.f275.resultTypes.toList = [2]:=rfl
 simp only [qU,qT,eL,eI,eLL,eB,Nat.zero_add,Nat.reduceAdd]
 intro M
 refine qQ.of ?_
 refine gw7 (kk 6) Y0 ?_
 refine qQ.loop (β:=Nat × Int × Nat × Int) (γ:=Unit) (fun x => ⟨[(0,.c (.val (.int x.2.1))),(1,.c (.val (.int x.2.2.1))),(5,.c (.val (.int x.2.2.2)))],[]⟩) (fun x => (0 ≤ x.2.1∧x.2.1 < 10007)∧x.2.2.1 < 2 ^ x.1∧x.2.2.1 ≤ 1000000000∧(0 ≤ x.2.2.2∧x.2.2.2 < 10007)∧powG x.1 x.2.1 x.2.2.1 x.2.2.2 = powG f a0 k0 1) (fun x => x.2.2.1)
  (fun _ => ⟨[(5,.c (.val (.int (powG f a0 k0 1))))],[]⟩) (fun _ => True) (f,a0,k0,1) ⟨ha,hk,hk2,(by decide:(0:Int) ≤ 1∧(1:Int) < 10007),rfl⟩ ?_ ?_ ?_
 ·exact gw6 Y0
 ·rintro ⟨g,a,k,out⟩ ⟨h1,h2,h3,h4,h5⟩
  simp only at h1 h2 h3 h4 h5 ⊢
  by_cases h:k = 0
  ·subst h
   have i1:(((0:Nat):Int) > 0) = False:=eq_false (by omega)
   rw [powG_zero] at h5
   refine gw7 (kk 6) i1 ?_
   refine qZ.out () trivial ?_
   rw [← h5]
   exact gw6 Y0
  ·have i1:((k:Int) > 0) = True:=eq_true (by omega)
   have hq:(k:Int).tdiv 2 = ((k / 2:Nat):Int):=by rw [Int.tdiv_eq_ediv_of_nonneg (by omega)];omega
   have hr:(k:Int).tmod 2 = ((k % 2:Nat):Int):=by rw [Int.tmod_eq_emod_of_nonneg (by omega)];omega
   have hw:w64 ((k / 2:Nat):Int) = ((k / 2:Nat):Int):=qN (by omega)
   obtain ⟨g,rfl⟩:∃ g',g = g' + 1:=by
    cases g with
    | zero => rw [Nat.pow_zero] at h2;omega
    | succ g => exact ⟨g,rfl⟩
   rw [Nat.pow_succ] at h2
   have haa:=mul_bdW h1 h1
   have hma:=vU a a (by omega)
   have hst:powG (g + 1) a k out = powG g (mP (a * a)) (k / 2) (if k % 2 = 1 then mP (out * a) else out):=by
    conv => lhs;unfold powG
    rw [if_neg h]
   rw [hst] at h5
   simp only [eI] at hma
   by_cases hodd:k % 2 = 1
   ·have i2:(((k % 2:Nat):Int) == 1) = true:=beq_iff_eq.2 (by omega)
    have hoa:=mul_bdW h4 h1
    have hmo:=vU out a (by omega)
    simp only [eI] at hmo
    rw [if_pos hodd] at h5
    ((refine gw74 (kk 6) i1 ?_);with_reducible (apply QS (qJ 20) Tab.none;refine QW ?_;simp only [Zg,Zi,seval,i1];rfl);(refine gw74 (kk 6) i1 ?_))
    ((refine gw74 (kk 6) (Y3 hr i2 (show ((2:Int) = 0) = False from eq_false (by decide))) ?_);with_reducible (apply QS (qJ 20) Tab.none;refine QW ?_;simp only [Zg,Zi,seval,hr,i2,show ((2:Int) = 0) = False from eq_false (by decide)];rfl);(refine gw74 (kk 6) (Y3 hr i2 (show ((2:Int) = 0) = False from eq_false (by decide))) ?_))
    ((refine gw74 (kk 6) i2 ?_);with_reducible (apply QS (qJ 20) (Tab.none.at' 98 hmo);refine QW ?_;simp only [Zg,Zi,seval,i2];rfl);(refine gw74 (kk 6) i2 ?_))
    ((refine gw74 (kk 6) Y0 ?_);with_reducible (apply QS (qJ 20) (Tab.none.at' 98 hma);refine QW ?_;simp only [Zg,Zi,seval];rfl);(refine gw74 (kk 6) Y0 ?_))
    refine gw7 (kk 6) (Y3 hq hw (show ((2:Int) = 0) = False from eq_false (by decide))) ?_
    refine qZ.on (g,mP (a * a),k / 2,mP (out * a)) ⟨⟨kI _,by show k / 2 < 2 ^ g;omega,by show k / 2 ≤ _;omega,kI _,h5⟩,by show k / 2 < k;omega⟩ ?_
    exact gw6 Y0
   ·have i2:(((k % 2:Nat):Int) == 1) = false:=beq_eq_false_iff_ne.2 (by omega)
    rw [if_neg hodd] at h5
    refine gw168 (kk 6) (Y6 i1 hr i2 hq hw (show ((2:Int) = 0) = False from eq_false (by decide))) ?_
    refine qZ.on (g,mP (a * a),k / 2,out) ⟨⟨kI _,by show k / 2 < 2 ^ g;omega,by show k / 2 ≤ _;omega,h4,h5⟩,by show k / 2 < k;omega⟩ ?_
    exact gw6 Y0
 ·rintro _ _
  refine gw7 (kk 6) Y0 ?_
  exact gw8
theorem a_l01Inv (a:Int) (ha:0 ≤ a∧a < 10007):AFn Tryz.prog 265 [eI a] (· = [.val (.int (powG 14 a 10005 1))]):=by
 have h:=a_l01Pow 14 a 10005 ha (by decide) (by decide)
 simp only [eI,show ((10005:Nat):Int) = 10005 from rfl] at h
 refine AFn.of_runs (qJ 5) Tryz.func265 rfl rfl rfl gz ?_
 have hres:Tryz.f265.results.toList = [.tmp 2]:=rfl
 have hrts:Tryz.f265.resultTypes.toList = [2]:=rfl
 simp only [qU,qT,eL,eI,eLL,eB,Nat.zero_add,Nat.reduceAdd]
 intro M
 refine qQ.of ?_
 refine gw169 (kk 3) ?_
 exact gw8
theorem a_l01Frac1 (q:Int):AFn Tryz.prog 232 [eI 1,eI q] (· = [.val (.int (powG 14 (mP q) 10005 1))]):=by
 have h1:=wY 1
 have h2:=wY q
 have h3:=a_l01Inv (mP q) (kI q)
 have hb:=powG_bd 14 (mP q) 10005 1 (by decide:(0:Int) ≤ 1∧(1:Int) < 10007)
 obtain ⟨z,hz⟩:∃ z,z = powG 14 (mP q) 10005 1:=⟨_,rfl⟩
 rw [← hz] at h3 hb ⊢
 have h4:=vU (mP 1) z (by rw [show mP 1 = 1 from rfl];omega)
 have h5:mP (mP 1 * z) = z:=by rw [show mP 1 = 1 from rfl,Int.one_mul];unfold mP;omega
 rw [h5] at h4
 simp only [eI] at h1 h2 h3 h4
 refine AFn.of_runs (qJ 11) Tryz.func232 rfl rfl rfl gz ?_
 have hres:Tryz.f232.results.toList = [.tmp 4]:=rfl
 have hrts:Tryz.f232.resultTypes.toList = [2]:=rfl
 simp only [qU,qT,eL,eI,eLL,eB,Nat.zero_add,Nat.reduceAdd]
 intro M
 refine qQ.of ?_
 refine gw170 (kk 5) ?_
 exact gw8
def drw0 (G:(Nat × Int)→List Res × (Nat × Int)) (s:Nat × Int):List (List D)→Option (List Res × (Nat × Int))
 | [] => some (G s)
 | _ => none
theorem vD {code:List Int} {G:(Nat × Int)→List Res × (Nat × Int)} {s:Nat × Int} (h:s.1 ≤ code.length):drwG code (drw0 G) 3 [srcD code s] [] = some ((G s).1,[srcD code (G s).2]):=by
 rw [drwG_eq h];rfl
theorem drw0_of {P:Program} {f:FuncId} {code:List Int} {G:(Nat × Int)→List Res × (Nat × Int)} (h:∀ s,s.1 ≤ code.length→AEp P f true 3 [srcD code s] [] (fun r x => r = (G s).1∧x = [srcD code (G s).2])):xR P f code (drw0 G):=by
 intro s post rs s' hs hp
 unfold drw0 at hp
 split at hp
 ·have e:=Option.some.inj hp
  have e1:rs = (G s).1:=by rw [e]
  have e2:s' = (G s).2:=by rw [e]
  subst e1;subst e2
  exact h s hs
 ·cases hp
def fracP (p q:Int):Int:=mP (mP p * powG 14 (mP q) 10005 1)
theorem fracP_bd (p q:Int):0 ≤ fracP p q∧fracP p q < 10007:=kI _
theorem a_l01FracG (p q:Int) (hp:-1000 ≤ p∧p ≤ 1000) (hq:-1000 ≤ q∧q ≤ 1000):AFn Tryz.prog 232 [eI p,eI q] (· = [.val (.int (fracP p q))]):=by
 have m1:=wY p
 have m2:=wY q
 have hb:=kI q
 have hp2:=kI p
 have hv:=powG_bd 14 (mP q) 10005 1 (by decide)
 have hbb:=mul_bdW hp2 hv
 have m3:=a_l01Inv (mP q) hb
 have m4:=vU (mP p) (powG 14 (mP q) 10005 1) (by omega)
 unfold fracP
 simp only [eI] at m1 m2 m3 m4
 refine AFn.of_runs (qJ 11) Tryz.func232 rfl rfl rfl gz ?_
 have hres:Tryz.f232.results.toList = [.tmp 4]:=rfl
 have hrts:Tryz.f232.resultTypes.toList = [2]:=rfl
 simp only [qU,qT,eL,eI,eLL,eB,Nat.zero_add,Nat.reduceAdd]
 intro M
 refine qQ.of ?_
 refine gw171 (kk 5) ?_
 exact gw8
def kX:List Int:=[0,1,0,1,10006,2]
def numF (code:List Int) (s:Nat × Int):Int × (Nat × Int) :=
 let c:=nxtF code s 5
 if c.1 = 0 then nxtF code c.2 10007 else if c.1 = 1 then pickF code c.2 kX else
  let a:=nxtF code c.2 15
  let b:=nxtF code a.2 12
  (fracP (a.1 - 7) (1 + b.1),b.2)
theorem vW {code:List Int} (hc:jM code) {s:Nat × Int} (hs:s.1 ≤ code.length):(0 ≤ (numF code s).1∧(numF code s).1 < 10007)∧(numF code s).2.1 ≤ code.length:=by
 unfold numF
 obtain ⟨c,hcd⟩:∃ c,c = nxtF code s 5:=⟨_,rfl⟩
 have h1:=jP (n:=5) hs
 rw [← hcd] at h1 ⊢
 simp only
 split
 ·have hb:=xV hc c.2 10007
  exact ⟨by omega,jP h1⟩
 ·split
  ·obtain ⟨h2,h3⟩:=pickF_ok hc h1 (l:=kX) (by decide)
   refine ⟨?_,h3⟩
   generalize (pickF code c.2 kX).1 = x at h2
   unfold kX at h2
   simp only [List.mem_cons,List.not_mem_nil,or_false] at h2
   omega
  ·exact ⟨fracP_bd _ _,jP (jP h1)⟩
def numG (code:List Int) (s:Nat × Int):List Res × (Nat × Int):=([.val (.int (numF code s).1)],(numF code s).2)
theorem yE0 {code:List Int} (hc:jM code) (hl:code.length ≤ 1000000000):xR Tryz.prog 199 code (drw0 (numG code)):=by
 refine drw0_of fun s hs => ?_
 have hpin:=qA0 hc hl
 have hpk:=(p_l01Pick hc hl).ok
 have hdr:=yM code s 5 hs
 have hbd:=xV hc s 5
 have hat:=jP (n:=5) hs
 unfold numG numF
 obtain ⟨⟨c,s1⟩,hp⟩:∃ p,p = nxtF code s 5:=⟨_,rfl⟩
 rw [← hp] at hdr hbd hat ⊢
 simp only [eI] at hdr hbd hat ⊢
 by_cases c0:c = 0
 ·subst c0
  have hd0:=yM code s1 10007 hat
  obtain ⟨⟨x,s2⟩,hp⟩:∃ p,p = nxtF code s1 10007:=⟨_,rfl⟩
  rw [← hp] at hd0 ⊢
  simp only [eI,if_true] at hd0 ⊢
  refine AEp.of_runs (qJ 21) Tryz.func199 rfl rfl rfl (fun _ => rfl) gz ?_
  have hres:Tryz.f199.results.toList = [.tmp 2]:=rfl
  have hrts:Tryz.f199.resultTypes.toList = [2]:=rfl
  simp only [List.length_cons,List.length_nil,yX,if_true,qU,qT,eL,eI,eLL,eB,Nat.zero_add,Nat.reduceAdd]
  intro M og cap
  refine qQ.of ?_
  refine gw166 (kk 5) (Yp hdr hd0) ?_
  exact gw167 Y0
 have e0:(c == 0) = false:=by simp [c0]
 by_cases c1:c = 1
 ·subst c1
  have hd0:=drwL_eq (G:=pickG code) hat (l:=kX) (by decide) (by decide)
  have e2:pickG code s1 kX = ([.val (.int (pickF code s1 kX).1)],(pickF code s1 kX).2):=rfl
  rw [e2] at hd0
  rw [if_neg c0,if_pos rfl]
  obtain ⟨⟨x,s2⟩,hp⟩:∃ p,p = pickF code s1 kX:=⟨_,rfl⟩
  rw [← hp] at hd0 ⊢
  simp only [kX,List.map_cons,List.map_nil,eI] at hd0 ⊢
  refine AEp.of_runs (qJ 21) Tryz.func199 rfl rfl rfl (fun _ => rfl) gz ?_
  have hres:Tryz.f199.results.toList = [.tmp 2]:=rfl
  have hrts:Tryz.f199.resultTypes.toList = [2]:=rfl
  simp only [List.length_cons,List.length_nil,yX,if_true,qU,qT,eL,eI,eLL,eB,Nat.zero_add,Nat.reduceAdd]
  intro M og cap
  refine qQ.of ?_
  refine gw166 (kk 5) (Yp hdr e0) ?_
  ((refine gw74 (kk 5) Y0 ?_);(with_reducible refine qQ.regCut (qJ 21) Tab.none 2 (s1:=?_) ?_ ?_);rotate_left 1;(focus ((with_reducible refine QW ?_);simp only [Zg,Zi,seval];with_reducible rfl));simp only [List.toList_toArray,List.drop_succ_cons,List.drop_zero])
  refine qY.frzs [12] ?_
  (refine qY.opsT (qJ 21) (T:=Tab.none.pin 147 (drwE code (drwL (pickG code))) hpk) (s':=?_) ?_ ?_;rotate_left 1;focus (simp only [Zg,Zi,seval,hd0,drwE];with_reducible rfl))
  refine gw7 (kk 5) Y0 ?_
  exact gw167 Y0
 have e1:(c == 1) = false:=by simp [c1]
 rw [if_neg c0,if_neg c1]
 have hd0:=yM code s1 15 hat
 have hb0:=xV hc s1 15
 have ha0:=jP (n:=15) hat
 obtain ⟨⟨x,s2⟩,hp⟩:∃ p,p = nxtF code s1 15:=⟨_,rfl⟩
 rw [← hp] at hd0 hb0 ha0 ⊢
 simp only [eI] at hd0 hb0 ha0 ⊢
 have hd1:=yM code s2 12 ha0
 have hb1:=xV hc s2 12
 obtain ⟨⟨y,s3⟩,hp⟩:∃ p,p = nxtF code s2 12:=⟨_,rfl⟩
 rw [← hp] at hd1 hb1 ⊢
 simp only [eI] at hd1 hb1 ⊢
 have hfr:=a_l01FracG (x - 7) (1 + y) (by omega) (by omega)
 have w1:w64 (x - 7) = x - 7:=qN (by omega)
 have w2:w64 (1 + y) = 1 + y:=qN (by omega)
 simp only [eI] at hfr
 refine AEp.of_runs (qJ 21) Tryz.func199 rfl rfl rfl (fun _ => rfl) gz ?_
 have hres:Tryz.f199.results.toList = [.tmp 2]:=rfl
 have hrts:Tryz.f199.resultTypes.toList = [2]:=rfl
 simp only [List.length_cons,List.length_nil,yX,if_true,qU,qT,eL,eI,eLL,eB,Nat.zero_add,Nat.reduceAdd]
 intro M og cap
 refine qQ.of ?_
 refine gw172 (kk 5) (Y7 hdr hd0 hd1 e0 e1 w1 w2) ?_
 exact gw167 Y0
structure EOk (n m:Nat) (e:Elt):Prop where
 len:e.length ≤ n
 ok:∀ q ∈ e,(1 ≤ q.1∧q.1 < 10007)∧FOk m q.2∧q.2.length ≤ m
structure EAOk (n m:Nat) (e:Elt):Prop where
 len:e.length ≤ n
 ok:∀ q ∈ e,(-1 ≤ q.1∧q.1 ≤ 10007)∧FAOk m q.2
theorem EOk.any {n m:Nat} {e:Elt} (h:EOk n m e):EAOk (n + 1) (m + 13) e:=⟨by have:=h.len;omega,fun q hq => by
 obtain ⟨h1,h2,h3⟩:=h.ok q hq
 have:=h2.sum
 exact ⟨by omega,⟨by omega,by omega⟩⟩⟩
def densF:Nat→List Int→Int
 | 0,_ => 0
 | f + 1,t => (brs t).foldl (fun o b => wrap64 (o * densF f b)) t.length
def kB (f:Nat) (t:List Int) (k:Nat):Int:=((brs t).take k).foldl (fun o b => wrap64 (o * densF f b)) t.length
theorem densTo_succ (f:Nat) (t:List Int) (k:Nat) (h:k < (brs t).length):kB f t (k + 1) = wrap64 (kB f t k * densF f (brs t)[k]):=by
 unfold kB
 rw [List.take_succ_eq_append_getElem h,List.foldl_append];rfl
theorem c_spec_l03Density:∀ (n:Nat) (v:Value) (t:List Int) (w:World),Rd (RS RI) w [v] t→qW t→t.length ≤ n→t.length ≤ 1000000 →
  Calls Tryz.prog 274 #[v] w (RetV w (.int .i64 (densF n t))):=by
 intro n
 induction n with
 | zero => intro v t w h hl hn h13;have:=hl.pos;omega
 | succ n ih =>
  intro v t w h hl hn h13
  obtain ⟨oa0,c0,rfl,m1,m2⟩:=h.val
  unfold maxLen at m2
  have hb:=yJ0 _ t w h hl (by omega)
  have HL:=Lib.hid hl
  have IH:=Lib.hid ih
  have hfew:=brs_few hl
  clear h hl ih
  go_enter Tryz.func274,Tryz.ntmps274
  go_wp2_with (go_at_call 230;refine hb.mono ?_;rintro e w1 ⟨u,rfl,o1,b1⟩;obtain ⟨oa,cap,rfl,l1,l2⟩:=o1.val)
  have hsz1:=b1.size
  obtain ⟨oa1,cap1,L⟩:=o1.rd.lists
  have hval:=L.val
  simp only [Value.slice.injEq,true_and] at hval
  obtain ⟨rfl,rfl⟩:=hval
  have HLs:=Lib.hid L
  clear L o1 hb
  go_loopw [3,5] (fun o i wr => ∃ k:Nat,k ≤ (brs t).length∧i = .int .i64 k∧o = .int .i64 (kB n t k)∧Below w1.heap.size w1 wr) (fun _ i _ => (brs t).length - (intOf i).toNat)
  case atStart => exact ⟨0,Nat.zero_le _,rfl,by simp [kB],Below.refl _ _⟩
  case round =>
   obtain ⟨k,hk,rfl,rfl,hbel⟩:=hrel
   by_cases hlt:k < (brs t).length
   ·obtain ⟨b,off,rfl,hb,hc⟩:=HLs.out.get hlt
    obtain ⟨oi,ci,g1,hrd,q1,q2⟩:=hc k hlt
    have g2:wr.cell? ⟨b,off + k,none⟩ = some (.slice oi (brs t)[k].length ci):=(hbel.cell (p:=⟨b,off + k,none⟩) hb).trans g1
    have hmem:=List.getElem_mem hlt
    have hshort:=yE HL.out _ hmem
    have hc2:=IH.out (.slice oi (brs t)[k].length ci) (brs t)[k] wr (hrd.below hbel (Nat.le_refl _)) (jC HL.out _ hmem) (by omega) (by omega)
    have hnx:=densTo_succ n t k hlt
    obtain ⟨q,hq⟩:∃ q,q = kB n t k:=⟨_,rfl⟩
    obtain ⟨y,hy⟩:∃ y,y = densF n (brs t)[k]:=⟨_,rfl⟩
    obtain ⟨xl,hxl⟩:∃ xl,xl = (brs t)[k].length:=⟨_,rfl⟩
    rw [← hq,← hy] at hnx
    rw [← hy,← hxl] at hc2
    rw [← hxl] at g2 q1
    rw [← hq]
    obtain ⟨g,hg⟩:∃ g,wrap64 (q * y) = g:=⟨_,rfl⟩
    have hw:IntKind.i64.wrap (q * y) = g:=(IntWalk.i64_left _).trans hg
    rw [hg] at hnx
    have HN:=Lib.hid hnx
    clear hc g1 hrd hnx hq hy hxl hmem
    go_wp2_with (go_at_call 274;refine hc2.mono ?_;rintro e w2 ⟨rfl,b2⟩)
    have hb2:Below w1.heap.size w1 w2:=hbel.trans (b2.mono hbel.size)
    clear hc2
    go_wp2_with fail
    go_roundw
    case rel => exact ⟨k + 1,by omega,by go_num,by simp only [HN.out],hb2⟩
    case measure => simp [intOf];omega
   ·have hfin:kB n t k = densF (n + 1) t:=by
     show kB n t k = (brs t).foldl (fun o b => wrap64 (o * densF n b)) t.length
     unfold kB
     rw [List.take_of_length_le (by omega)]
    rw [hfin]
    go_wp2_with fail
    go_ret
    exact ⟨rfl,b1.trans (hbel.mono hsz1)⟩
theorem posOk_no {n:Nat} {e:Elt} {p:Int × List (List Int)} {t:List Int} (hp:p ∈ e) (ht:t ∈ p.2) (h:¬ posT t < n):posOk n e = false:=by
 rcases hq:posOk n e with _|_
 ·rfl
 ·unfold posOk at hq
  have:=List.all_eq_true.1 (List.all_eq_true.1 hq p hp) t ht
  exact absurd (of_decide_eq_true this) h
theorem posOk_yes {n:Nat} {e:Elt} (h:∀ p ∈ e,∀ t ∈ p.2,posT t < n):posOk n e = true :=
 List.all_eq_true.2 fun p hp => List.all_eq_true.2 fun t ht => decide_eq_true (h p hp t ht)
theorem elB_num {e:Elt} (h:elB e = true):∀ p ∈ e,0 ≤ p.1∧p.1 < 10007:=fun p hp => by
 have:=(vY h).2.1.2 p hp
 omega
theorem isNum_bd {vs:List Int} (h:vs.all isNum = true) (i:Nat):0 ≤ vs.getD i 0∧vs.getD i 0 < 10007:=by
 by_cases hi:i < vs.length
 ·rw [jU hi]
  have:=List.all_eq_true.1 h _ (List.getElem_mem hi)
  unfold isNum inR at this
  simp at this
  omega
 ·rw [List.getD_eq_getElem?_getD,List.getElem?_eq_none (by omega)];decide
theorem mul_bd {a b:Int} (h1:0 ≤ a∧a < 10007) (h2:0 ≤ b∧b < 10007):0 ≤ a * b∧a * b ≤ 100140049:=by
 refine ⟨Int.mul_nonneg h1.1 h2.1,?_⟩
 have:=Int.mul_le_mul (a:=a) (b:=b) (c:=10007) (d:=10007) (by omega) (by omega) h2.1 (by omega)
 omega
theorem forB_tree {f:List (List Int)} (h:forB f = true) {t:List Int} (ht:t ∈ f):canT t = true∧t.length ≤ qX f∧qX f ≤ 8:=by
 obtain ⟨h1,h2,_⟩:=kQ h
 exact ⟨h2 t ht,jN ht,h1⟩
theorem for_len:∀ bs:List (List Int),(∀ b ∈ bs,canT b = true)→bs.length ≤ qX bs
 | [],_ => by simp
 | b :: bs,h => by
  have ih:=for_len bs (fun c hc => h c (by simp [hc]))
  have hb:=h b (by simp)
  unfold canT at hb
  rw [Bool.and_eq_true] at hb
  have:=(kE hb.1).pos
  simp only [qX,List.map_cons,List.sum_cons,List.length_cons] at ih ⊢
  omega
theorem forB_len {f:List (List Int)} (h:forB f = true):f.length ≤ 8 :=
 Nat.le_trans (for_len f (fun _ hb => (forB_tree h hb).1)) (kQ h).1
theorem a_areNumbers (xs:List Int):AFn Tryz.prog 114 [eL xs] (· = [.val (.bool (xs.all isNum))]) :=
 afn_L_s (v:=.bool _) (enters_of Tryz.func114 rfl rfl) (fun _ _ => jF.2 rfl) (fun u w h => yO0 u xs w h)
noncomputable def TNum:Tab Tryz.prog:=Tab.none.add 92 (tab1 codI fun n => some [.val (.int (mP n))]) (xD fun n rs h => by cases h;exact a_num n)
theorem a_impl_ValueOf (e:Elt) (vs:List Int) (hz:szP e):AFn Tryz.prog 55 [[.sl 2 (e.map ePt)],eL vs] (· = [.val (.int (valOf e vs).1),.val (.int (valOf e vs).2)]):=by
 have he:=yL0 e hz
 have hnum:=a_areNumbers vs
 simp only [eL] at hnum
 have htr:=a_treesTo 8 (by omega)
 simp only [eI] at htr
 rw [show ((8:Nat):Int) = 8 from rfl] at htr
 unfold valOf
 refine AFn.of_runs (qJ 64) Tryz.func55 rfl rfl rfl gz ?_
 have hres:Tryz.f55.results.toList = [.tmp 4,.tmp 5]:=rfl
 have hrts:Tryz.f55.resultTypes.toList = [2,2]:=rfl
 simp only [qU,qT,eL,eI,eLL,eB,Nat.zero_add,Nat.reduceAdd]
 intro M
 refine qQ.of ?_
 by_cases hE:elB e = true
 rotate_left
 ·rw [if_neg hE]
  have hE:elB e = false:=by simpa using hE
  rw [hE] at he
  refine gw173 (kk 40) ?_
  exact gw8
 rw [if_pos hE]
 rw [hE] at he
 by_cases hv:vs.length ≤ 200
 rotate_left
 ·have i1:((vs.length:Int) > 200) = True:=eq_true (by omega)
  rw [decide_eq_false hv,Bool.false_and,if_neg (by decide)]
  refine gw174 (kk 40) i1 ?_
  exact gw8
 have i1:((vs.length:Int) > 200) = False:=eq_false (by omega)
 by_cases hN:vs.all isNum = true
 rotate_left
 ·have hN:vs.all isNum = false:=by simpa using hN
  rw [hN] at hnum
  rw [hN,Bool.and_false,if_neg (by decide)]
  refine gw175 (kk 40) i1 ?_
  exact gw8
 rw [hN] at hnum
 rw [hN,decide_eq_true hv,Bool.and_self,if_pos rfl]
 obtain ⟨L,hL⟩:∃ L,L = allTo 8:=⟨_,rfl⟩
 have hLl:L.length = 200:=by rw [hL];exact vN
 rw [← hL] at htr
 have hlen:e.length ≤ 300:=(vY hE).1
 have hforb:=(vY hE).2.2.2
 have hcb:=elB_num hE
 refine gw176 (kk 40) i1 ?_
 refine qQ.loop (β:=Nat) (γ:=Unit) (fun i => ⟨[(1,.c (.val (.sl 1 (vs.map eI)))),(6,.c (.own 6 L.length)),(7,.c (.val (.int (valE vs (e.take i))))),(28,.c (.val (.sl 2 (e.map ePt)))),(29,.c (.val (.int e.length))),(30,.c (.val (.int i)))],[(6,.row 1 (L.map eL) false)]⟩)
  (fun i => i ≤ e.length∧∀ p ∈ e.take i,∀ t ∈ p.2,posT t < vs.length) (fun i => e.length - i)
  (fun _ => ⟨[(7,.c (.val (.int (valE vs e))))],[]⟩) (fun _ => ∀ p ∈ e,∀ t ∈ p.2,posT t < vs.length) 0 ⟨Nat.zero_le _,by simp⟩ ?_ ?_ ?_
 ·exact gw177
 ·rintro i ⟨hi,hpos⟩
  have hw:=qH (n:=i) (by omega)
  by_cases h:i < e.length
  ·have i2:((i:Int) < (e.length:Int)) = True:=eq_true (by omega)
   have i3:((0:Int) ≤ (i:Int)) = True:=eq_true (by omega)
   have hpm:=List.getElem_mem h
   obtain ⟨c,f,ht⟩:∃ c f,(c,f) = e[i]:=⟨_,_,rfl⟩
   have hg:(e.map ePt)[i]? = some [.int c,.sl 1 (f.map eL)]:=by rw [qD h,← ht];rfl
   have htk:e.take (i + 1) = e.take i ++ [(c,f)]:=by rw [ht];exact List.take_succ_eq_append_getElem h
   rw [← ht] at hpm
   have hfb:=hforb _ hpm
   have hc0:=hcb _ hpm
   simp only at hfb hc0
   have hfl:=forB_len hfb
   refine gw61 (kk 40) (Y3 i2 i3 hg) ?_
   refine qQ.loop (β:=Nat) (γ:=Unit) (fun k => ⟨[(1,.c (.val (.sl 1 (vs.map eI)))),(6,.c (.own 6 L.length)),(7,.c (.val (.int (valE vs (e.take i))))),(10,.c (.val (.int (valF vs (f.take k) c)))),(28,.c (.val (.sl 2 (e.map ePt)))),(29,.c (.val (.int e.length))),(30,.c (.val (.int i))),(37,.c (.val (.sl 1 (f.map eL)))),(38,.c (.val (.int f.length))),(39,.c (.val (.int k)))],[(6,.row 1 (L.map eL) false)]⟩)
    (fun k => k ≤ f.length∧∀ t ∈ f.take k,posT t < vs.length) (fun k => f.length - k)
    (fun _ => ⟨[(1,.c (.val (.sl 1 (vs.map eI)))),(6,.c (.own 6 L.length)),(7,.c (.val (.int (valE vs (e.take i))))),(10,.c (.val (.int (valF vs f c)))),(28,.c (.val (.sl 2 (e.map ePt)))),(29,.c (.val (.int e.length))),(30,.c (.val (.int i)))],[(6,.row 1 (L.map eL) false)]⟩) (fun _ => ∀ t ∈ f,posT t < vs.length) 0 ⟨Nat.zero_le _,by simp⟩ ?_ ?_ ?_
   ·exact gw178
   ·rintro k ⟨hk,hkp⟩
    have hw2:=qH (n:=k) (by omega)
    by_cases h2:k < f.length
    ·have k2:((k:Int) < (f.length:Int)) = True:=eq_true (by omega)
     have k3:((0:Int) ≤ (k:Int)) = True:=eq_true (by omega)
     obtain ⟨t,htt⟩:∃ t,t = f[k]:=⟨_,rfl⟩
     have htm:t ∈ f:=by rw [htt];exact List.getElem_mem h2
     have hgt:(f.map eL)[k]? = some [.sl 1 (t.map eI)]:=by rw [qD h2,htt];rfl
     have hfk:f.take (k + 1) = f.take k ++ [t]:=by rw [htt];exact List.take_succ_eq_append_getElem h2
     obtain ⟨hct,htl,hs8⟩:=forB_tree hfb htm
     obtain ⟨p1,p2,p3,p4⟩:=pos_at hct (show t.length ≤ 8 by omega) (Nat.le_refl _)
     have hix:=a_indexIn (allTo 8) t (posT t) (by rw [vN];omega) p1 p2 p3 p4
     rw [← hL] at hix
     simp only [eLL,eL] at hix
     obtain ⟨x,hx⟩:∃ x,x = posT t:=⟨_,rfl⟩
     rw [← hx] at hix
     by_cases hlt:x < vs.length
     ·have j1:((x:Int) ≥ (vs.length:Int)) = False:=eq_false (by omega)
      have j2:((x:Int) < (vs.length:Int)) = True:=eq_true (by omega)
      have j3:((0:Int) ≤ (x:Int)) = True:=eq_true (by omega)
      have hgv:(vs.map eI)[x]? = some [.int (vs.getD x 0)]:=by rw [qD hlt,jU hlt];rfl
      obtain ⟨q,hq⟩:∃ q,q = valF vs (f.take k) c:=⟨_,rfl⟩
      have hqb:0 ≤ q∧q < 10007:=by rw [hq];exact valF_bd vs _ _ hc0.1 hc0.2
      have hmb:=mul_bd hqb (isNum_bd hN x)
      have hwm:=qN (n:=q * vs.getD x 0) (by omega)
      rw [← hq]
      refine gw179 (kk 40) (Y9 k2 k3 hgt hgv j1 j2 j3 hwm hw2) ?_
      refine qZ.on (k + 1) ⟨⟨h2,fun t' ht' => ?_⟩,by omega⟩ ?_
      ·rw [hfk,List.mem_append,List.mem_singleton] at ht'
       rcases ht' with ht'|rfl
       ·exact hkp t' ht'
       ·rw [← hx];exact hlt
      ·rw [hfk,valF_snoc,← hq,← hx]
       exact gw6 Y0
     ·have j1:((x:Int) ≥ (vs.length:Int)) = True:=eq_true (by omega)
      rw [posOk_no hpm htm (by rw [← hx];exact hlt),if_neg (by decide)]
      refine gw179 (kk 40) (Y4 k2 k3 hgt j1) ?_
      refine qZ.ret ?_
      refine gw7 (kk 40) Y0 ?_
      refine qZ.ret ?_
      refine gw7 (kk 40) Y0 ?_
      exact gw8
    ·have k2:((k:Int) < (f.length:Int)) = False:=eq_false (by omega)
     have hall:f.take k = f:=List.take_of_length_le (by omega)
     rw [hall] at hkp ⊢
     refine gw5 (kk 40) k2 ?_
     refine qZ.out () hkp ?_
     exact gw6 Y0
   ·rintro _ hfp
    have hb1:=valE_bd vs (e.take i) (fun p hp => hcb p (List.mem_of_mem_take hp))
    have hb2:=valF_bd vs f c hc0.1 hc0.2
    rw [List.length_take] at hb1
    have hws:=qN (n:=valE vs (e.take i) + valF vs f c) (by omega)
    refine gw7 (kk 40) (Yp hws hw) ?_
    refine qZ.on (i + 1) ⟨⟨h,fun p hp => ?_⟩,by omega⟩ ?_
    ·rw [htk,List.mem_append,List.mem_singleton] at hp
     rcases hp with hp|rfl
     ·exact hpos p hp
     ·exact hfp
    ·rw [htk,valE_snoc]
     exact gw6 Y0
  ·have i2:((i:Int) < (e.length:Int)) = False:=eq_false (by omega)
   have hall:e.take i = e:=List.take_of_length_le (by omega)
   rw [hall] at hpos ⊢
   refine gw5 (kk 40) i2 ?_
   refine qZ.out () hpos ?_
   exact gw6 Y0
 ·rintro _ hpos
  rw [posOk_yes hpos,if_pos rfl]
  refine gw180 (kk 40) ?_
  exact gw8
def exaV (t:List Int):Int:=powG 14 (mP (densF 8 t)) 10005 1
def exaM:List Int:=1 :: T6.map exaV
theorem densF_in64:∀ (n:Nat) (t:List Int),t.length ≤ 1000000→qC (densF n t)
 | 0,t,_ => by unfold densF qC;omega
 | n + 1,t,h => by
  have key:∀ (bs:List (List Int)) (a:Int),qC a→qC (bs.foldl (fun o b => wrap64 (o * densF n b)) a):=by
   intro bs
   induction bs with
   | nil => intro a h;exact h
   | cons b bs ih => intro a _;exact ih _ (by show qC (wrap64 (a * densF n b));unfold qC wrap64;omega)
  exact key _ _ (by unfold qC;omega)
theorem a_l03Density (t:List Int) (h:qW t) (hl:t.length ≤ 8):AFn Tryz.prog 274 [eL t] (· = [.val (.int (densF 8 t))]) :=
 AFn.of_v (enters_of Tryz.func274 rfl rfl) (fun _ _ => jZ.2 ⟨rfl,densF_in64 8 t (by omega)⟩) (fun w A vs ⟨v1,_,e1,h1,e2⟩ => by subst e2;subst e1;exact c_spec_l03Density 8 v1 t w (Rd.of (rd1 h1)) h hl (by omega))
theorem a_l07Exact:AFn Tryz.prog 256 [] (· = [.own 1 (exaM.map eI) true]):=by
 have hto:AFn Tryz.prog 174 [[.int 6]] (· = [.val (.sl 1 (T6.map eL))]):=AFn.val1 (a_l03All 6 (by decide))
 obtain ⟨T,hT⟩:∃ T,T = T6.map eL:=⟨_,rfl⟩
 have hTl:T.length = 37:=by rw [hT,List.length_map,jA]
 rw [← hT] at hto
 refine AFn.of_runs (qJ 22) Tryz.func256 rfl rfl rfl gz ?_
 have hres:Tryz.f256.results.toList = [.tmp 0]:=rfl
 have hrts:Tryz.f256.resultTypes.toList = [24]:=rfl
 simp only [qU,qT,eL,eI,eLL,eB,Nat.zero_add,Nat.reduceAdd]
 intro M
 refine qQ.of ?_
 refine gw181 (kk 4) hTl ?_
 refine qQ.loop (β:=Nat) (γ:=Unit) (fun i => ⟨[(1,.c (.val (.sl 1 T))),(2,.c (.own 2 (i + 1))),(3,.c (.val (.int i)))],[(2,.row 1 ((1 :: (T6.take i).map exaV).map eI) true)]⟩) (fun i => i ≤ 37) (fun i => 37 - i)
  (fun _ => ⟨[(2,.c (.own 2 38))],[(2,.row 1 (exaM.map eI) true)]⟩) (fun _ => True) 0 (Nat.zero_le _) ?_ ?_ ?_
 ·exact gw154 Y0
 ·intro i hi
  have hi:i ≤ 37:=hi
  have hw:=qH (n:=i) (by omega)
  by_cases hi37:i < 37
  ·have i1:((i:Int) < 37) = True:=eq_true (by omega)
   have i2:((0:Int) ≤ (i:Int)) = True:=eq_true (by omega)
   have hiT:i < T6.length:=by rw [jA];exact hi37
   obtain ⟨t,ht⟩:∃ t,t = T6[i]:=⟨_,rfl⟩
   have htm:t ∈ T6:=by rw [ht];exact List.getElem_mem _
   have hg:T[i]? = some [.sl 1 (t.map eI)]:=by rw [hT,qD hiT,ht];rfl
   have hat:(1 :: (T6.take i).map exaV) ++ [exaV t] = 1 :: (T6.take (i + 1)).map exaV:=by
    rw [ht,List.take_succ_eq_append_getElem hiT,List.map_append];rfl
   obtain ⟨hct,hcl⟩:=T6_ok t htm
   obtain ⟨hlev,_⟩:=vH hct
   have hd:=a_l03Density t hlev (by omega)
   have hf:=a_l01Frac1 (densF 8 t)
   have e:powG 14 (mP (densF 8 t)) 10005 1 = exaV t:=rfl
   rw [e] at hf
   simp only [eL,eI] at hd hf
   obtain ⟨R,hR⟩:∃ R,R = (1:Int) :: (T6.take i).map exaV:=⟨_,rfl⟩
   have hRm:(R.map eI).length = i + 1:=by rw [List.length_map,hR,List.length_cons,List.length_map,List.length_take];omega
   rw [← hR] at hat ⊢
   have q1:=jV (n:=i + 1 + 1) (by omega)
   have q2:=jW (n:=i + 1 + 1) (c:=8) (by omega) (by omega)
   have q3:(i ≤ 140737488355326) = True:=eq_true (by omega)
   refine gw182 (kk 4) (Y9 i1 i2 hg hTl hw hRm q1 q2 q3) ?_
   refine qZ.on (i + 1) ⟨by omega,by omega⟩ ?_
   rw [← hat,List.map_append]
   exact gw183
  ·have i1:((i:Int) < 37) = False:=eq_false (by omega)
   obtain rfl:i = 37:=by omega
   refine gw7 (kk 4) (Yp i1 hTl) ?_
   refine qZ.out () trivial ?_
   rw [List.take_of_length_le (by rw [jA];omega),show exaM = 1 :: T6.map exaV from rfl,List.map_cons]
   exact gw6 Y0
 ·rintro _ _
  refine gw7 (kk 4) Y0 ?_
  exact gw8
def viaK (P:Program) (cfg:Cfg) (M:Nat→Prop) (b:Code) (fs:List Fr) (Q:Exit→St→Prop) (s1:St):Exit→St→Prop
 | .normal,s => jD s s1
 | e,s => outK P cfg M (.seq b :: fs) Q e s
theorem qQ.via {P:Program} {cfg:Cfg} {M:Nat→Prop} {a b:Code} {fs:List Fr} {Q:Exit→St→Prop} {s:St} (s1:St) (h1:qQ P cfg M a [] (viaK P cfg M b fs Q s1) s) (h2:qQ P cfg M b fs Q s1):qQ P cfg M a (.seq b :: fs) Q s :=
 qK.monoF (Q1:=viaK P cfg M b fs Q s1) h1 fun e s' h => by
  cases e with
  | normal => exact ⟨s1,.inr h,h2⟩
  | _ => exact ⟨s',.inl rfl,h⟩
theorem viaK.on {P:Program} {cfg:Cfg} {M:Nat→Prop} {b:Code} {fs:List Fr} {Q:Exit→St→Prop} {s s1:St} (h:jD s s1):outK P cfg M [] (viaK P cfg M b fs Q s1) .normal s:=h
def lstN (code:List Int):Nat→(Nat × Int)→List Int→List Int × (Nat × Int)
 | 0,s,t => (t,s)
 | k + 1,s,t => lstN code k (numF code s).2 (t ++ [(numF code s).1])
def chgN (code:List Int) (m:Int):Nat→(Nat × Int)→List Int→List Int × (Nat × Int)
 | 0,s,t => (t,s)
 | k + 1,s,t => chgN code m k (numF code (nxtF code s m).2).2 (t.set (1 + (nxtF code s m).1).toNat (numF code (nxtF code s m).2).1)
def sclN (a:List Int) (k:Int) (n:Nat):List Int:=a.getD 0 0 :: (List.range n).map fun i => mP (a.getD (i + 1) 0 * powG 3 k (T6.getD i []).length 1)
structure MpOk (n:Nat) (t:List Int):Prop where
 len:t.length = n
 bd:∀ x ∈ t,0 ≤ x∧x < 10007
theorem MpOk.snoc {n:Nat} {t:List Int} (h:MpOk n t) {v:Int} (hv:0 ≤ v∧v < 10007):MpOk (n + 1) (t ++ [v]):=⟨by have:=h.len;simp;omega,fun x hx => by
 rcases List.mem_append.1 hx with hx|hx
 ·exact h.bd x hx
 ·rw [List.mem_singleton] at hx;subst hx;exact hv⟩
theorem MpOk.set {n:Nat} {t:List Int} (h:MpOk n t) (i:Nat) {v:Int} (hv:0 ≤ v∧v < 10007):MpOk n (t.set i v):=⟨by rw [List.length_set];exact h.len,fun x hx => by
 rcases List.mem_or_eq_of_mem_set hx with hx|rfl
 ·exact h.bd x hx
 ·exact hv⟩
theorem MpOk.get {n:Nat} {t:List Int} (h:MpOk n t) {i:Nat} (hi:i < n):(t.map eI)[i]? = some [.int (t.getD i 0)]∧0 ≤ t.getD i 0∧t.getD i 0 < 10007:=by
 have hl:=h.len
 rw [qD (by omega),jU (by omega)]
 exact ⟨rfl,h.bd _ (List.getElem_mem _)⟩
theorem lstN_ok {code:List Int} (hc:jM code):∀ (k:Nat) {s:Nat × Int} {t:List Int} {n:Nat},MpOk n t→s.1 ≤ code.length→MpOk (n + k) (lstN code k s t).1∧(lstN code k s t).2.1 ≤ code.length
 | 0,_,_,_,h,hs => ⟨h,hs⟩
 | k + 1,s,t,n,h,hs => by
  obtain ⟨h1,h2⟩:=vW hc hs
  have:=lstN_ok hc k (h.snoc h1) h2
  rw [show n + (k + 1) = n + 1 + k by omega]
  exact this
theorem chgN_ok {code:List Int} (hc:jM code) {m:Int}:∀ (k:Nat) {s:Nat × Int} {t:List Int} {n:Nat},MpOk n t→s.1 ≤ code.length→MpOk n (chgN code m k s t).1∧(chgN code m k s t).2.1 ≤ code.length
 | 0,_,_,_,h,hs => ⟨h,hs⟩
 | k + 1,s,t,n,h,hs => by
  obtain ⟨h1,h2⟩:=vW hc (jP (n:=m) hs)
  exact chgN_ok hc k (h.set _ h1) h2
theorem sclN_succ (a:List Int) (k:Int) (n:Nat):sclN a k (n + 1) = sclN a k n ++ [mP (a.getD (n + 1) 0 * powG 3 k (T6.getD n []).length 1)]:=by
 unfold sclN
 rw [List.range_succ,List.map_append];rfl
theorem sclN_ok {a:List Int} (ha:MpOk 38 a) (k:Int) (n:Nat):MpOk (n + 1) (sclN a k n):=⟨by simp [sclN],fun x hx => by
 rcases List.mem_cons.1 hx with rfl|hx
 ·exact (ha.get (by omega)).2
 ·obtain ⟨i,_,rfl⟩:=List.mem_map.1 hx
  exact kI _⟩
theorem exaM_ok:MpOk 38 exaM:=⟨by unfold exaM;rw [List.length_cons,List.length_map,jA],fun x hx => by
 rcases List.mem_cons.1 hx with rfl|hx
 ·decide
 ·obtain ⟨t,_,rfl⟩:=List.mem_map.1 hx
  exact powG_bd _ _ _ _ (by decide)⟩
def lstF (code:List Int) (s:Nat × Int) (m:Int):List Int × (Nat × Int):=lstN code m.toNat s []
def mpF (code:List Int) (s:Nat × Int) (m:Int):List Int × (Nat × Int) :=
 let c:=nxtF code s 6
 if c.1 = 0 then
  let e:=exaM.set 0 m
  let b:=nxtF code c.2 2
  let g:=if b.1 = 0 then (sclN e (numF code b.2).1 37,(numF code b.2).2) else (e,b.2)
  let n:=nxtF code g.2 3
  chgN code 37 n.1.toNat n.2 g.1
 else if c.1 = 1 then
  let n:=nxtF code c.2 4
  chgN code 8 (1 + n.1).toNat n.2 ((List.replicate 38 0).set 0 m)
 else (m :: (lstF code c.2 37).1,(lstF code c.2 37).2)
theorem mpF_ok {code:List Int} (hc:jM code) {s:Nat × Int} (hs:s.1 ≤ code.length) {m:Int} (hm:0 ≤ m∧m < 10007):MpOk 38 (mpF code s m).1∧(mpF code s m).2.1 ≤ code.length:=by
 have h0:=jP (n:=6) hs
 unfold mpF
 simp only
 split
 ·have h1:=jP (n:=2) h0
  refine chgN_ok hc _ ?_ (jP ?_)
  ·split
   ·exact sclN_ok (exaM_ok.set 0 hm) _ 37
   ·exact exaM_ok.set 0 hm
  ·split
   ·exact (vW hc h1).2
   ·exact h1
 ·split
  ·refine chgN_ok hc _ (MpOk.set ⟨by simp,fun x hx => ?_⟩ 0 hm) (jP h0)
   rw [List.eq_of_mem_replicate hx];decide
  ·obtain ⟨h1,h2⟩:=lstN_ok hc 37 (s:=(nxtF code s 6).2) (t:=[]) (n:=0) ⟨rfl,by simp⟩ h0
   refine ⟨⟨?_,fun x hx => ?_⟩,h2⟩
   ·have:=h1.len
    show (lstN code 37 (nxtF code s 6).2 []).1.length + 1 = 38
    omega
   ·rcases List.mem_cons.1 hx with rfl|hx
    ·exact hm
    ·exact h1.bd x hx
def vF:List Int:=[-1,10007,1099511627776,-4611686018427387904]
def splF (code:List Int) (s:Nat × Int):Int × (Nat × Int) :=
 let c:=nxtF code s 30
 if c.1 = 0 then pickF code c.2 vF else numF code c.2
def mpAnyF (code:List Int) (s:Nat × Int):List Int × (Nat × Int) :=
 let a:=mpF code s 1
 let c:=nxtF code a.2 24
 if c.1 = 0 then (a.1.set 0 (nxtF code c.2 3).1,(nxtF code c.2 3).2)
 else if c.1 = 1 then
  let i:=nxtF code c.2 38
  (a.1.set i.1.toNat (splF code i.2).1,(splF code i.2).2)
 else if c.1 = 2 then (a.1.tail,c.2)
 else (a.1,c.2)
def lstG (code:List Int) (s:Nat × Int) (m:Int):List Res × (Nat × Int):=([.own 1 ((lstF code s m).1.map eI) true],(lstF code s m).2)
theorem p_l01List {code:List Int} (hc:jM code) (hl:code.length ≤ 1000000000):xR Tryz.prog 258 code (drw1 (lstG code)):=by
 refine drw1_of fun s m hs hm1 hm2 => ?_
 have hnm:=(yE0 hc hl).ok
 unfold lstG lstF
 refine AEp.of_runs (qJ 17) Tryz.func258 rfl rfl rfl (fun _ => rfl) gz ?_
 have hres:Tryz.f258.results.toList = [.tmp 4]:=rfl
 have hrts:Tryz.f258.resultTypes.toList = [24]:=rfl
 simp only [List.length_cons,List.length_nil,yX,if_true,qU,qT,eL,eI,eLL,eB,Nat.zero_add,Nat.reduceAdd]
 intro M og cap
 refine qQ.of ?_
 refine gw7 (kk 6) Y0 ?_
 refine qQ.loop (β:=Int × (Nat × Int) × List Int) (γ:=List Int × (Nat × Int)) (fun x => ⟨[(0,.optr 0 0 0),(1,.c (.val (.int x.1))),(5,.c (.own 5 x.2.2.length))],[(0,.pin og cap 3 [srcD code x.2.1]),(5,.row 1 (x.2.2.map eI) true)]⟩)
  (fun x => (-1000 ≤ x.1∧x.1 ≤ 1000)∧x.2.1.1 ≤ code.length∧x.2.2.length + x.1.toNat = m.toNat∧lstN code x.1.toNat x.2.1 x.2.2 = lstN code m.toNat s []) (fun x => x.1.toNat)
  (fun z => ⟨[(0,.optr 0 0 0),(5,.c (.own 5 z.1.length))],[(0,.pin og cap 3 [srcD code z.2]),(5,.row 1 (z.1.map eI) true)]⟩) (fun z => z = lstN code m.toNat s []) (m,s,[]) ⟨⟨hm1,hm2⟩,hs,by simp,rfl⟩ ?_ ?_ ?_
 ·exact gw184
 ·rintro ⟨j,s,t⟩ ⟨hj,hs,htl,hgr⟩
  simp only at hj hs htl hgr
  by_cases h0:0 < j
  ·have i1:(j > 0) = True:=eq_true h0
   have hd1:=vD (G:=numG code) hs
   have hat:=(vW hc hs).2
   have hjj:j.toNat = (j - 1).toNat + 1:=by omega
   rw [hjj] at hgr
   have hgr:lstN code (j - 1).toNat (numF code s).2 (t ++ [(numF code s).1]) = lstN code m.toNat _ []:=hgr
   have e1:numG code s = ([.val (.int (numF code s).1)],(numF code s).2):=rfl
   rw [e1] at hd1
   obtain ⟨⟨x,s2⟩,hp⟩:∃ p,p = numF code s:=⟨_,rfl⟩
   rw [← hp] at hd1 hat hgr
   simp only at hd1 hat hgr
   have w1:w64 (j - 1) = j - 1:=qN (by omega)
   have hlm:(t.map eI).length = t.length:=List.length_map _
   have q1:=jV (n:=t.length + 1) (by omega)
   have q2:=jW (n:=t.length + 1) (c:=8) (by omega) (by omega)
   refine gw185 (kk 6) (Y6 hd1 i1 w1 hlm q1 q2) ?_
   refine qZ.on (j - 1,s2,t ++ [x]) ⟨⟨by omega,hat,by rw [List.length_append,List.length_singleton];omega,hgr⟩,by show (j - 1).toNat < j.toNat;omega⟩ ?_
   exact gw186
  ·have i1:(j > 0) = False:=eq_false h0
   have hj0:j.toNat = 0:=by omega
   rw [hj0] at hgr
   refine gw7 (kk 6) i1 ?_
   refine qZ.out (t,s) hgr ?_
   exact gw187
 rintro z rfl
 refine gw7 (kk 6) Y0 ?_
 exact gw167 Y0
theorem a_l07Scale (a:List Int) (k:Int) (ha:MpOk 38 a) (hk:0 ≤ k∧k < 10007):AFn Tryz.prog 257 [eL a,eI k] (· = [.own 1 ((sclN a k 37).map eI) true]):=by
 have hall:=AFn.val1 (a_l03All 6 (by decide))
 obtain ⟨T,hT⟩:∃ T,T = T6.map eL:=⟨_,rfl⟩
 have hTl:T.length = 37:=by rw [hT,List.length_map,jA]
 have hall:AFn Tryz.prog 174 [[.int 6]] (· = [.val (.sl 1 T)]):=by rw [hT];exact hall
 have ham:(a.map eI).length = 38:=by rw [List.length_map,ha.len]
 obtain ⟨hg0,_⟩:=ha.get (i:=0) (by decide)
 have z00:((0:Int) ≤ 0) = True:=eq_true (by decide)
 have z38:((0:Int) < 38) = True:=eq_true (by decide)
 refine AFn.of_runs (qJ 36) Tryz.func257 rfl rfl rfl gz ?_
 have hres:Tryz.f257.results.toList = [.tmp 4]:=rfl
 have hrts:Tryz.f257.resultTypes.toList = [24]:=rfl
 simp only [qU,qT,eL,eI,eLL,eB,Nat.zero_add,Nat.reduceAdd]
 intro M
 refine qQ.of ?_
 refine gw7 (kk 8) Y0 ?_
 (((with_reducible refine qQ.wFz (qJ 36) (Tab.none.at' 174 hall) qA [5] (tr:=?_) (s1:=?_) (rest:=?_) ?_ ?_ ?_);rotate_left 3;(focus ((with_reducible refine QW ?_);simp only [Zg,Zd,Zi,seval,drunF,xT,xN,valD,kU,List.contains_cons,List.contains_nil,ham,hg0,z00,z38,Int.toNat_zero];with_reducible rfl));focus ((with_reducible refine QK ?_);simp only [Zk];kernel_rfl));(refine qY.opsT (qJ 36) (T:=(Tab.none.at' 174 hall)) (s':=?_) ?_ ?_;rotate_left 1;focus (simp only [Zg,Zi,seval,ham,hg0,z00,z38,Int.toNat_zero];with_reducible rfl)))
 refine gw27 (kk 8) Y0 ?_
 refine qQ.loop (β:=Nat) (γ:=Unit) (fun i => ⟨[(0,.c (.val (.sl 1 (a.map eI)))),(1,.c (.val (.int k))),(5,.c (.val (.sl 1 T))),(6,.c (.own 6 (i + 1))),(7,.c (.val (.int i)))],[(6,.row 1 ((sclN a k i).map eI) true)]⟩) (fun i => i ≤ 37) (fun i => 37 - i)
  (fun _ => ⟨[(6,.c (.own 6 38))],[(6,.row 1 ((sclN a k 37).map eI) true)]⟩) (fun _ => True) 0 (Nat.zero_le _) ?_ ?_ ?_
 ·exact gw188 (show (sclN a k 0).map eI = [eI (a.getD 0 0)] from rfl)
 ·intro i hi
  have hi:i ≤ 37:=hi
  have hw:=qH (n:=i) (by omega)
  by_cases hi37:i < 37
  ·have i1:((i:Int) < 37) = True:=eq_true (by omega)
   have i2:((0:Int) ≤ (i:Int)) = True:=eq_true (by omega)
   have i3:(((i + 1:Nat):Int) < 38) = True:=eq_true (by omega)
   have i4:((0:Int) ≤ ((i + 1:Nat):Int)) = True:=eq_true (by omega)
   have hiT:i < T6.length:=by rw [jA];exact hi37
   have hst:=sclN_succ a k i
   rw [jU hiT] at hst
   obtain ⟨t,ht⟩:∃ t,t = T6[i]:=⟨_,rfl⟩
   have htm:t ∈ T6:=by rw [ht];exact List.getElem_mem _
   rw [← ht] at hst
   have hg:T[i]? = some [.sl 1 (t.map eI)]:=by rw [hT,qD hiT,ht];rfl
   obtain ⟨hct,hcl⟩:=T6_ok t htm
   obtain ⟨hga,hab⟩:=ha.get (i:=i + 1) (by omega)
   have htl:(t.map eI).length = t.length:=List.length_map _
   have hp:=a_l01Pow 3 k t.length hk (by omega) (by omega)
   have hpb:=powG_bd 3 k t.length 1 (by decide)
   obtain ⟨y,hy⟩:∃ y,y = powG 3 k t.length 1:=⟨_,rfl⟩
   rw [← hy] at hp hpb hst
   have hbb:=mul_bdW hab hpb
   have hm:=vU (a.getD (i + 1) 0) y (by omega)
   simp only [eI] at hp hm
   have hRl:=(sclN_ok ha k i).len
   obtain ⟨R,hR⟩:∃ R,R = sclN a k i:=⟨_,rfl⟩
   rw [← hR] at hst hRl ⊢
   have hRm:(R.map eI).length = i + 1:=by rw [List.length_map,hRl]
   have q1:=jV (n:=i + 1 + 1) (by omega)
   have q2:=jW (n:=i + 1 + 1) (c:=8) (by omega) (by omega)
   refine gw189 (kk 8) (Y12 i1 i2 i3 i4 hg hga ham htl hTl hw hRm (Yp q1 q2)) ?_
   refine qZ.on (i + 1) ⟨by omega,by omega⟩ ?_
   rw [hst]
   exact gw190
  ·have i1:((i:Int) < 37) = False:=eq_false (by omega)
   obtain rfl:i = 37:=by omega
   refine gw27 (kk 8) (Yp i1 hTl) ?_
   refine qZ.out () trivial ?_
   exact gw6 Y0
 ·rintro _ _
  refine gw27 (kk 8) Y0 ?_
  exact gw8
def splG (code:List Int) (s:Nat × Int):List Res × (Nat × Int):=([.val (.int (splF code s).1)],(splF code s).2)
theorem p_l01Spoil {code:List Int} (hc:jM code) (hl:code.length ≤ 1000000000):xR Tryz.prog 217 code (drw0 (splG code)):=by
 refine drw0_of fun s hs => ?_
 have hpin:=qA0 hc hl
 have hpk:=(p_l01Pick hc hl).ok
 have hnm:=(yE0 hc hl).ok
 have hdr:=yM code s 30 hs
 have hat:=jP (n:=30) hs
 unfold splG splF
 obtain ⟨⟨c,s1⟩,hp⟩:∃ p,p = nxtF code s 30:=⟨_,rfl⟩
 rw [← hp] at hdr hat ⊢
 simp only [eI] at hdr hat ⊢
 by_cases c0:c = 0
 ·subst c0
  have hd0:=drwL_eq (G:=pickG code) hat (l:=vF) (by decide) (by decide)
  have e2:pickG code s1 vF = ([.val (.int (pickF code s1 vF).1)],(pickF code s1 vF).2):=rfl
  rw [e2] at hd0
  rw [if_pos rfl]
  obtain ⟨⟨x,s2⟩,hp⟩:∃ p,p = pickF code s1 vF:=⟨_,rfl⟩
  rw [← hp] at hd0 ⊢
  simp only [vF,List.map_cons,List.map_nil,eI] at hd0 ⊢
  refine AEp.of_runs (qJ 11) Tryz.func217 rfl rfl rfl (fun _ => rfl) gz ?_
  have hres:Tryz.f217.results.toList = [.tmp 2]:=rfl
  have hrts:Tryz.f217.resultTypes.toList = [2]:=rfl
  simp only [List.length_cons,List.length_nil,yX,if_true,qU,qT,eL,eI,eLL,eB,Nat.zero_add,Nat.reduceAdd]
  intro M og cap
  refine qQ.of ?_
  refine gw166 (kk 3) hdr ?_
  ((refine gw74 (kk 3) Y0 ?_);(with_reducible refine qQ.regCut (qJ 11) Tab.none 2 (s1:=?_) ?_ ?_);rotate_left 1;(focus ((with_reducible refine QW ?_);simp only [Zg,Zi,seval];with_reducible rfl));simp only [List.toList_toArray,List.drop_succ_cons,List.drop_zero])
  refine qY.frzs [7] ?_
  (refine qY.opsT (qJ 11) (T:=Tab.none.pin 147 (drwE code (drwL (pickG code))) hpk) (s':=?_) ?_ ?_;rotate_left 1;focus (simp only [Zg,Zi,seval,hd0,drwE];with_reducible rfl))
  refine gw7 (kk 3) Y0 ?_
  exact gw167 Y0
 have e0:(c == 0) = false:=by simp [c0]
 have hd1:=vD (G:=numG code) hat
 have e1:numG code s1 = ([.val (.int (numF code s1).1)],(numF code s1).2):=rfl
 rw [e1] at hd1
 rw [if_neg c0]
 obtain ⟨⟨x,s2⟩,hp⟩:∃ p,p = numF code s1:=⟨_,rfl⟩
 rw [← hp] at hd1 ⊢
 simp only at hd1 ⊢
 refine AEp.of_runs (qJ 11) Tryz.func217 rfl rfl rfl (fun _ => rfl) gz ?_
 have hres:Tryz.f217.results.toList = [.tmp 2]:=rfl
 have hrts:Tryz.f217.resultTypes.toList = [2]:=rfl
 simp only [List.length_cons,List.length_nil,yX,if_true,qU,qT,eL,eI,eLL,eB,Nat.zero_add,Nat.reduceAdd]
 intro M og cap
 refine qQ.of ?_
 refine gw191 (kk 3) (Y3 hdr hd1 e0) ?_
 exact gw167 Y0
def mpG (code:List Int) (s:Nat × Int) (m:Int):List Res × (Nat × Int):=([.own 1 ((mpF code s m).1.map eI) true],(mpF code s m).2)
theorem mp_get {t:List Int} (h:MpOk 38 t) {i:Int} (hi:0 ≤ i∧i < 38):(t.map eI)[i.toNat]? = some [.int (t.getD i.toNat 0)]:=(h.get (i:=i.toNat) (by omega)).1
theorem p_l07Draw {code:List Int} (hc:jM code) (hl:code.length ≤ 1000000000) {s:Nat × Int} (hs:s.1 ≤ code.length):AEp Tryz.prog 216 true 3 [srcD code s] [[.int 1]] (fun r x => r = (mpG code s 1).1∧x = [srcD code (mpG code s 1).2]):=by
 have hpin:=qA0 hc hl
 have hnm:=(yE0 hc hl).ok
 have hli:=(p_l01List hc hl).ok
 have hex:=a_l07Exact
 have hdr:=yM code s 6 hs
 have hbd:=xV hc s 6
 have hat:=jP (n:=6) hs
 have z00:((0:Int) == 0) = true:=by decide
 have z10:((1:Int) == 0) = false:=by decide
 have z11:((1:Int) == 1) = true:=by decide
 have z0:((0:Int) ≤ 0) = True:=eq_true (by decide)
 have z1:((0:Int) < 38) = True:=eq_true (by decide)
 unfold mpG mpF
 obtain ⟨⟨c,s1⟩,hp⟩:∃ p,p = nxtF code s 6:=⟨_,rfl⟩
 rw [← hp] at hdr hbd hat ⊢
 simp only [eI] at hdr hbd hat ⊢
 by_cases c0:c = 0
 ·subst c0
  have hE:=exaM_ok
  have hEl:(exaM.map eI).length = 38:=by rw [List.length_map,hE.len]
  have hEg:=(hE.get (i:=0) (by decide)).1
  have hE1:=hE.set 0 (v:=1) (by decide)
  have hset:(exaM.map eI).set 0 [.int 1] = (exaM.set 0 1).map eI:=by rw [List.map_set];rfl
  have hd2:=yM code s1 2 hat
  have hb2:=xV hc s1 2
  have ha2:=jP (n:=2) hat
  obtain ⟨E,hEE⟩:∃ E,E = exaM:=⟨_,rfl⟩
  obtain ⟨E1,hEE1⟩:∃ E,E = exaM.set 0 1:=⟨_,rfl⟩
  rw [← hEE1] at hset hE1
  rw [← hEE] at hex hEl hEg hset
  rw [if_pos rfl,← hEE1]
  obtain ⟨⟨b,s2⟩,hp⟩:∃ p,p = nxtF code s1 2:=⟨_,rfl⟩
  rw [← hp] at hd2 hb2 ha2 ⊢
  simp only [eI] at hd2 hb2 ha2 ⊢
  have hE1l:(E1.map eI).length = 38:=by rw [List.length_map,hE1.len]
  obtain ⟨⟨t,s3⟩,hg⟩:∃ g,g = (if b = 0 then (sclN E1 (numF code s2).1 37,(numF code s2).2) else (E1,s2)):=⟨_,rfl⟩
  rw [← hg]
  simp only
  have hgok:MpOk 38 t∧s3.1 ≤ code.length:=by
   have h1:t = (if b = 0 then (sclN E1 (numF code s2).1 37,(numF code s2).2) else (E1,s2)).1:=by rw [← hg]
   have h2:s3 = (if b = 0 then (sclN E1 (numF code s2).1 37,(numF code s2).2) else (E1,s2)).2:=by rw [← hg]
   rw [h1,h2]
   split
   ·exact ⟨sclN_ok hE1 _ 37,(vW hc ha2).2⟩
   ·exact ⟨hE1,ha2⟩
  obtain ⟨htok,hs3⟩:=hgok
  have hd3:=yM code s3 3 hs3
  have hb3:=xV hc s3 3
  have ha3:=jP (n:=3) hs3
  obtain ⟨⟨nn,s4⟩,hp⟩:∃ p,p = nxtF code s3 3:=⟨_,rfl⟩
  rw [← hp] at hd3 hb3 ha3 ⊢
  simp only [eI] at hd3 hb3 ha3 ⊢
  obtain ⟨n,rfl⟩:∃ n:Nat,nn = n:=⟨nn.toNat,by omega⟩
  rw [Int.toNat_natCast]
  refine AEp.of_runs (qJ 64) Tryz.func216 rfl rfl rfl (fun _ => rfl) gz ?_
  have hres:Tryz.f216.results.toList = [.tmp 4]:=rfl
  have hrts:Tryz.f216.resultTypes.toList = [24]:=rfl
  simp only [List.length_cons,List.length_nil,yX,if_true,qU,qT,eL,eI,eLL,eB,Nat.zero_add,Nat.reduceAdd]
  intro M og cap
  refine qQ.of ?_
  refine gw192 (kk 12) (Y7 hdr hd2 z0 z1 hEl hEg hset) ?_
  refine qQ.via ⟨[(0,.optr 0 0 0),(5,.c (.own 5 38))],[(0,.pin og cap 3 [srcD code s3]),(5,.row 1 (t.map eI) true)]⟩ ?_ ?_
  ·by_cases hb0:b = 0
   ·have e0:(b == 0) = true:=beq_iff_eq.2 hb0
    rw [if_pos hb0] at hg
    have hd1:=vD (G:=numG code) ha2
    have e1:numG code s2 = ([.val (.int (numF code s2).1)],(numF code s2).2):=rfl
    rw [e1] at hd1
    obtain ⟨hk,_⟩:=vW hc ha2
    obtain ⟨⟨k,s5⟩,hp⟩:∃ p,p = numF code s2:=⟨_,rfl⟩
    rw [← hp] at hd1 hk hg
    simp only at hd1 hk hg
    obtain ⟨rfl,rfl⟩:t = sclN E1 k 37∧s3 = s5:=Prod.ext_iff.1 hg
    have hsc:=a_l07Scale E1 k hE1 hk
    simp only [eL,eI] at hsc
    rw [e0]
    ((refine gw193 (kk 12) hd1 ?_);(with_reducible refine qQ.regCut (qJ 64) (Tab.none.pin 199 (drwE code (drw0 (numG code))) hnm) 3 (s1:=?_) ?_ ?_);rotate_left 1;(focus ((with_reducible refine QW ?_);simp only [Zg,Zi,seval,hd1,drwE];with_reducible rfl));simp only [List.toList_toArray,List.drop_succ_cons,List.drop_zero])
    refine qY.frzs [14] ?_
    (refine qY.opsT (qJ 64) (T:=Tab.none.at' 257 hsc) (s':=?_) ?_ ?_;rotate_left 1;focus (simp only [Zg,Zi,seval];with_reducible rfl))
    refine viaK.on ?_
    exact gw187
   ·have e0:(b == 0) = false:=beq_eq_false_iff_ne.2 hb0
    rw [if_neg hb0] at hg
    obtain ⟨rfl,rfl⟩:t = E1∧s3 = s2:=Prod.ext_iff.1 hg
    rw [e0]
    refine gw7 (kk 12) Y0 ?_
    refine viaK.on ?_
    exact gw187
  refine gw166 (kk 12) hd3 ?_
  refine qQ.loop (β:=Nat × (Nat × Int) × List Int) (γ:=List Int × (Nat × Int)) (fun x => ⟨[(0,.optr 0 0 0),(5,.c (.own 5 38)),(6,.c (.val (.int x.1)))],[(0,.pin og cap 3 [srcD code x.2.1]),(5,.row 1 (x.2.2.map eI) true)]⟩)
   (fun x => x.1 ≤ 3∧x.2.1.1 ≤ code.length∧MpOk 38 x.2.2∧chgN code 37 x.1 x.2.1 x.2.2 = chgN code 37 n s4 t) (fun x => x.1)
   (fun z => ⟨[(0,.optr 0 0 0),(5,.c (.own 5 38))],[(0,.pin og cap 3 [srcD code z.2]),(5,.row 1 (z.1.map eI) true)]⟩) (fun z => z = chgN code 37 n s4 t) (n,s4,t) ⟨by simp only;omega,ha3,htok,rfl⟩ ?_ ?_ ?_
  ·exact gw187
  ·rintro ⟨j,s,t⟩ ⟨hj,hs,ht,hgr⟩
   simp only at hj hs ht hgr
   by_cases h0:0 < j
   ·obtain ⟨j,rfl⟩:∃ i,j = i + 1:=⟨j - 1,by omega⟩
    have i1:(((j + 1:Nat):Int) > 0) = True:=eq_true (by omega)
    have hdr:=yM code s 37 hs
    have hbd:=xV hc s 37
    have hat:=jP (n:=37) hs
    have hgr:chgN code 37 j (numF code (nxtF code s 37).2).2 (t.set (1 + (nxtF code s 37).1).toNat (numF code (nxtF code s 37).2).1) = chgN code 37 n s4 _:=hgr
    obtain ⟨⟨i,s5⟩,hp⟩:∃ p,p = nxtF code s 37:=⟨_,rfl⟩
    rw [← hp] at hdr hbd hat hgr
    simp only [eI] at hdr hbd hat hgr
    have hd1:=vD (G:=numG code) hat
    have e1:numG code s5 = ([.val (.int (numF code s5).1)],(numF code s5).2):=rfl
    rw [e1] at hd1
    obtain ⟨hv,ha1⟩:=vW hc hat
    obtain ⟨⟨v,s6⟩,hp⟩:∃ p,p = numF code s5:=⟨_,rfl⟩
    rw [← hp] at hd1 hv ha1 hgr
    simp only at hd1 hv ha1 hgr
    have i2:((0:Int) ≤ 1 + i) = True:=eq_true (by omega)
    have i3:(1 + i < 38) = True:=eq_true (by omega)
    have w1:w64 (1 + i) = 1 + i:=qN (by omega)
    have w4:w64 (((j + 1:Nat):Int) - 1) = j:=by rw [qN (by omega)];omega
    have htm:(t.map eI).length = 38:=by rw [List.length_map,ht.len]
    have hg:=mp_get ht (i:=1 + i) (by omega)
    have hst:(t.map eI).set (1 + i).toNat [.int v] = (t.set (1 + i).toNat v).map eI:=by rw [List.map_set];rfl
    refine gw191 (kk 12) (Y9 hdr hd1 i1 i2 i3 w1 w4 htm hg) ?_
    refine qZ.on (j,s6,t.set (1 + i).toNat v) ⟨⟨by omega,ha1,ht.set _ hv,hgr⟩,by simp⟩ ?_
    rw [← hst]
    exact gw187
   ·obtain rfl:j = 0:=by omega
    have i1:(((0:Nat):Int) > 0) = False:=eq_false (by omega)
    refine gw7 (kk 12) i1 ?_
    refine qZ.out (t,s) hgr ?_
    exact gw187
  rintro z rfl
  refine gw7 (kk 12) Y0 ?_
  exact gw167 Y0
 have f0:(c == 0) = false:=beq_eq_false_iff_ne.2 c0
 by_cases c1:c = 1
 ·subst c1
  have hd2:=yM code s1 4 hat
  have hb2:=xV hc s1 4
  have ha2:=jP (n:=4) hat
  rw [if_neg c0,if_pos rfl]
  obtain ⟨⟨nn,s4⟩,hp⟩:∃ p,p = nxtF code s1 4:=⟨_,rfl⟩
  rw [← hp] at hd2 hb2 ha2 ⊢
  simp only [eI] at hd2 hb2 ha2 ⊢
  obtain ⟨n,hn⟩:∃ n:Nat,1 + nn = n:=⟨(1 + nn).toNat,by omega⟩
  have hnw:w64 (1 + nn) = (n:Int):=by rw [qN (by omega),hn]
  rw [hn,Int.toNat_natCast]
  have htok:MpOk 38 ((List.replicate 38 (0:Int)).set 0 1):=MpOk.set ⟨by simp,fun x hx => by rw [List.eq_of_mem_replicate hx];decide⟩ 0 (by decide)
  have hz0:((List.replicate 38 (0:Int)).set 0 1).map eI = (List.replicate 38 [D.int 0]).set 0 [.int 1]:=by rw [List.map_set,List.map_replicate];rfl
  obtain ⟨t,ht⟩:∃ t,t = (List.replicate 38 (0:Int)).set 0 1:=⟨_,rfl⟩
  rw [← ht] at htok hz0 ⊢
  have hrl:(List.replicate 38 [D.int 0]).length = 38:=List.length_replicate
  have hr0:(List.replicate 38 [D.int 0])[0]? = some [D.int 0]:=rfl
  obtain ⟨Z,hZ⟩:∃ Z,Z = List.replicate 38 [D.int 0]:=⟨_,rfl⟩
  refine AEp.of_runs (qJ 64) Tryz.func216 rfl rfl rfl (fun _ => rfl) gz ?_
  have hres:Tryz.f216.results.toList = [.tmp 4]:=rfl
  have hrts:Tryz.f216.resultTypes.toList = [24]:=rfl
  simp only [List.length_cons,List.length_nil,yX,if_true,qU,qT,eL,eI,eLL,eB,Nat.zero_add,Nat.reduceAdd]
  intro M og cap
  refine qQ.of ?_
  refine gw194 (kk 12) (Y9 hdr hd2 f0 z11 z0 z1 hnw hrl hr0) ?_
  refine qQ.loop (β:=Nat × (Nat × Int) × List Int) (γ:=List Int × (Nat × Int)) (fun x => ⟨[(0,.optr 0 0 0),(5,.c (.own 5 38)),(7,.c (.val (.int x.1)))],[(0,.pin og cap 3 [srcD code x.2.1]),(5,.row 1 (x.2.2.map eI) true)]⟩)
   (fun x => x.1 ≤ 4∧x.2.1.1 ≤ code.length∧MpOk 38 x.2.2∧chgN code 8 x.1 x.2.1 x.2.2 = chgN code 8 n s4 t) (fun x => x.1)
   (fun z => ⟨[(0,.optr 0 0 0),(5,.c (.own 5 38))],[(0,.pin og cap 3 [srcD code z.2]),(5,.row 1 (z.1.map eI) true)]⟩) (fun z => z = chgN code 8 n s4 t) (n,s4,t) ⟨by simp only;omega,ha2,htok,rfl⟩ ?_ ?_ ?_
  ·rw [ht]
   exact gw195 (show ((List.replicate 38 (0:Int)).set 0 1).map eI = [.int 1] :: List.replicate 37 [.int 0] from rfl)
  ·rintro ⟨j,s,t⟩ ⟨hj,hs,ht,hgr⟩
   simp only at hj hs ht hgr
   by_cases h0:0 < j
   ·obtain ⟨j,rfl⟩:∃ i,j = i + 1:=⟨j - 1,by omega⟩
    have i1:(((j + 1:Nat):Int) > 0) = True:=eq_true (by omega)
    have hdr:=yM code s 8 hs
    have hbd:=xV hc s 8
    have hat:=jP (n:=8) hs
    have hgr:chgN code 8 j (numF code (nxtF code s 8).2).2 (t.set (1 + (nxtF code s 8).1).toNat (numF code (nxtF code s 8).2).1) = chgN code 8 n s4 _:=hgr
    obtain ⟨⟨i,s5⟩,hp⟩:∃ p,p = nxtF code s 8:=⟨_,rfl⟩
    rw [← hp] at hdr hbd hat hgr
    simp only [eI] at hdr hbd hat hgr
    have hd1:=vD (G:=numG code) hat
    have e1:numG code s5 = ([.val (.int (numF code s5).1)],(numF code s5).2):=rfl
    rw [e1] at hd1
    obtain ⟨hv,ha1⟩:=vW hc hat
    obtain ⟨⟨v,s6⟩,hp⟩:∃ p,p = numF code s5:=⟨_,rfl⟩
    rw [← hp] at hd1 hv ha1 hgr
    simp only at hd1 hv ha1 hgr
    have i2:((0:Int) ≤ 1 + i) = True:=eq_true (by omega)
    have i3:(1 + i < 38) = True:=eq_true (by omega)
    have w1:w64 (1 + i) = 1 + i:=qN (by omega)
    have w4:w64 (((j + 1:Nat):Int) - 1) = j:=by rw [qN (by omega)];omega
    have htm:(t.map eI).length = 38:=by rw [List.length_map,ht.len]
    have hg:=mp_get ht (i:=1 + i) (by omega)
    have hst:(t.map eI).set (1 + i).toNat [.int v] = (t.set (1 + i).toNat v).map eI:=by rw [List.map_set];rfl
    refine gw191 (kk 12) (Y9 hdr hd1 i1 i2 i3 w1 w4 htm hg) ?_
    refine qZ.on (j,s6,t.set (1 + i).toNat v) ⟨⟨by omega,ha1,ht.set _ hv,hgr⟩,by simp⟩ ?_
    rw [← hst]
    exact gw187
   ·obtain rfl:j = 0:=by omega
    have i1:(((0:Nat):Int) > 0) = False:=eq_false (by omega)
    refine gw7 (kk 12) i1 ?_
    refine qZ.out (t,s) hgr ?_
    exact gw187
  rintro z rfl
  refine gw7 (kk 12) Y0 ?_
  exact gw167 Y0
 have f1:(c == 1) = false:=beq_eq_false_iff_ne.2 c1
 rw [if_neg c0,if_neg c1]
 have hd2:=drw1_eq (G:=lstG code) hat (m:=37) (by decide)
 have e2:lstG code s1 37 = ([.own 1 ((lstF code s1 37).1.map eI) true],(lstF code s1 37).2):=rfl
 rw [e2] at hd2
 obtain ⟨h1,_⟩:=lstN_ok hc 37 (s:=s1) (t:=[]) (n:=0) ⟨rfl,by simp⟩ hat
 have h1:(lstF code s1 37).1.length = 37:=by have:=h1.len;show (lstN code 37 s1 []).1.length = 37;omega
 obtain ⟨⟨t,s2⟩,hp⟩:∃ p,p = lstF code s1 37:=⟨_,rfl⟩
 rw [← hp] at hd2 h1 ⊢
 simp only at hd2 h1 ⊢
 have htm:(t.map eI).length = 37:=by rw [List.length_map,h1]
 have q1:=jV (n:=38) (by omega)
 have q2:=jW (n:=38) (c:=8) (by omega) (by omega)
 refine AEp.of_runs (qJ 64) Tryz.func216 rfl rfl rfl (fun _ => rfl) gz ?_
 have hres:Tryz.f216.results.toList = [.tmp 4]:=rfl
 have hrts:Tryz.f216.resultTypes.toList = [24]:=rfl
 simp only [List.length_cons,List.length_nil,yX,if_true,qU,qT,eL,eI,eLL,eB,Nat.zero_add,Nat.reduceAdd]
 intro M og cap
 refine qQ.of ?_
 refine gw196 (kk 12) (Y7 hdr hd2 f0 f1 htm q1 q2) ?_
 exact gw197
def mpAnyG (code:List Int) (s:Nat × Int):List Res × (Nat × Int):=([.val (.sl 1 ((mpAnyF code s).1.map eI))],(mpAnyF code s).2)
noncomputable def drwM (code:List Int) (s:Nat × Int):List (List D)→Option (List Res × (Nat × Int))
 | [[.int 1]] => some (mpG code s 1)
 | _ => none
theorem drwM_eq {code:List Int} {s:Nat × Int} (h:s.1 ≤ code.length):drwG code (drwM code) 3 [srcD code s] [[.int 1]] = some ([.own 1 ((mpF code s 1).1.map eI) true],[srcD code (mpF code s 1).2]):=by
 rw [drwG_eq h];rfl
theorem drwM_ok {code:List Int} (hc:jM code) (hl:code.length ≤ 1000000000):xR Tryz.prog 216 code (drwM code):=by
 intro s post rs s' hs hp
 unfold drwM at hp
 split at hp
 ·have e:=Option.some.inj hp
  have e1:rs = (mpG code s 1).1:=by rw [e]
  have e2:s' = (mpG code s 1).2:=by rw [e]
  subst e1;subst e2
  exact p_l07Draw hc hl hs
 ·cases hp
theorem p_l07DrawAny {code:List Int} (hc:jM code) (hl:code.length ≤ 1000000000):xR Tryz.prog 169 code (drw0 (mpAnyG code)):=by
 refine drw0_of fun s hs => ?_
 have hpin:=qA0 hc hl
 have hdw:=(drwM_ok hc hl).ok
 have hsp:=(p_l01Spoil hc hl).ok
 have hd0:=drwM_eq hs
 obtain ⟨hok,h2⟩:=mpF_ok hc hs (m:=1) (by decide)
 have hdr:=yM code (mpF code s 1).2 24 h2
 have hat:=jP (n:=24) h2
 have z0:((0:Int) ≤ 0) = True:=eq_true (by decide)
 have z1:((0:Int) < 38) = True:=eq_true (by decide)
 unfold mpAnyG mpAnyF
 obtain ⟨⟨t,s1⟩,hp⟩:∃ p,p = mpF code s 1:=⟨_,rfl⟩
 rw [← hp] at hd0 hok h2 hdr hat ⊢
 simp only at hd0 hok h2 hdr hat ⊢
 obtain ⟨⟨c,s2⟩,hq⟩:∃ p,p = nxtF code s1 24:=⟨_,rfl⟩
 rw [← hq] at hdr hat ⊢
 simp only [eI] at hdr hat ⊢
 have htm:(t.map eI).length = 38:=by rw [List.length_map,hok.len]
 have hg0:=(hok.get (i:=0) (by decide)).1
 have htl:((t.map eI).drop 1).take 37 = t.tail.map eI:=by rw [List.drop_one,← List.map_tail,List.take_of_length_le (by rw [List.length_map,List.length_tail,hok.len];decide)]
 by_cases c0:c = 0
 ·subst c0
  have hd1:=yM code s2 3 hat
  obtain ⟨⟨k,s3⟩,hk⟩:∃ p,p = nxtF code s2 3:=⟨_,rfl⟩
  rw [← hk] at hd1 ⊢
  rw [if_pos rfl]
  simp only [eI] at hd1 ⊢
  have hset:(t.map eI).set 0 [.int k] = (t.set 0 k).map eI:=by rw [List.map_set];rfl
  refine AEp.of_runs (qJ 27) Tryz.func169 rfl rfl rfl (fun _ => rfl) gz ?_
  have hres:Tryz.f169.results.toList = [.tmp 2]:=rfl
  have hrts:Tryz.f169.resultTypes.toList = [24]:=rfl
  simp only [List.length_cons,List.length_nil,yX,if_true,qU,qT,eL,eI,eLL,eB,Nat.zero_add,Nat.reduceAdd]
  intro M og cap
  refine qQ.of ?_
  ((refine gw198 (kk 8) (Y8 hdr hd0 hd1 htm hg0 hset z0 z1) ?_);with_reducible (apply QS (qJ 27) ((Tab.none.pin 82 (nxtE code) hpin).pin 216 (drwE code (drwM code)) hdw);refine QW ?_;simp only [Zg,Zi,seval,hdr,hd0,hd1,nxtE,drwE,htm,hg0,hset,z0,z1,Int.toNat_zero];rfl);(refine gw198 (kk 8) (Y8 hdr hd0 hd1 htm hg0 hset z0 z1) ?_))
  ((refine gw198 (kk 8) (Y8 hdr hd0 hd1 htm hg0 hset z0 z1) ?_);with_reducible (apply QS (qJ 27) ((Tab.none.pin 82 (nxtE code) hpin).pin 216 (drwE code (drwM code)) hdw);refine QW ?_;simp only [Zg,Zi,seval,hdr,hd0,hd1,nxtE,drwE,htm,hg0,hset,z0,z1,Int.toNat_zero];rfl);(refine gw198 (kk 8) (Y8 hdr hd0 hd1 htm hg0 hset z0 z1) ?_))
  ((refine gw198 (kk 8) (Y8 hdr hd0 hd1 htm hg0 hset z0 z1) ?_);with_reducible (apply QS (qJ 27) ((Tab.none.pin 82 (nxtE code) hpin).pin 216 (drwE code (drwM code)) hdw);refine QW ?_;simp only [Zg,Zi,seval,hdr,hd0,hd1,nxtE,drwE,htm,hg0,hset,z0,z1,Int.toNat_zero];rfl);(refine gw198 (kk 8) (Y8 hdr hd0 hd1 htm hg0 hset z0 z1) ?_))
  ((refine gw198 (kk 8) (Y8 hdr hd0 hd1 htm hg0 hset z0 z1) ?_);with_reducible (apply QS (qJ 27) ((Tab.none.pin 82 (nxtE code) hpin).pin 216 (drwE code (drwM code)) hdw);refine QW ?_;simp only [Zg,Zi,seval,hdr,hd0,hd1,nxtE,drwE,htm,hg0,hset,z0,z1,Int.toNat_zero];rfl);(refine gw198 (kk 8) (Y8 hdr hd0 hd1 htm hg0 hset z0 z1) ?_))
  ((refine gw198 (kk 8) (Y8 hdr hd0 hd1 htm hg0 hset z0 z1) ?_);with_reducible (apply QS (qJ 27) ((Tab.none.pin 82 (nxtE code) hpin).pin 216 (drwE code (drwM code)) hdw);refine QW ?_;simp only [Zg,Zi,seval,hdr,hd0,hd1,nxtE,drwE,htm,hg0,hset,z0,z1,Int.toNat_zero];rfl);(refine gw198 (kk 8) (Y8 hdr hd0 hd1 htm hg0 hset z0 z1) ?_))
  refine qQ.frz 3 ?_
  refine gw7 (kk 8) Y0 ?_
  exact gw167 htl
 have f0:(c == 0) = false:=by simp [c0]
 rw [if_neg c0]
 by_cases c1:c = 1
 ·subst c1
  have hd1:=yM code s2 38 hat
  have hb1:=xV hc s2 38
  have ha1:=jP (n:=38) hat
  obtain ⟨⟨i,s3⟩,hk⟩:∃ p,p = nxtF code s2 38:=⟨_,rfl⟩
  rw [← hk] at hd1 hb1 ha1 ⊢
  rw [if_pos rfl]
  simp only [eI] at hd1 hb1 ha1 ⊢
  have hd2:=vD (G:=splG code) ha1
  have e1:splG code s3 = ([.val (.int (splF code s3).1)],(splF code s3).2):=rfl
  rw [e1] at hd2
  obtain ⟨⟨v,s4⟩,hv⟩:∃ p,p = splF code s3:=⟨_,rfl⟩
  rw [← hv] at hd2 ⊢
  simp only at hd2 ⊢
  have i1:((0:Int) ≤ i) = True:=eq_true (by omega)
  have i2:(i < 38) = True:=eq_true (by omega)
  have hg:=mp_get hok (i:=i) (by omega)
  have hset:(t.map eI).set i.toNat [.int v] = (t.set i.toNat v).map eI:=by rw [List.map_set];rfl
  refine AEp.of_runs (qJ 27) Tryz.func169 rfl rfl rfl (fun _ => rfl) gz ?_
  have hres:Tryz.f169.results.toList = [.tmp 2]:=rfl
  have hrts:Tryz.f169.resultTypes.toList = [24]:=rfl
  simp only [List.length_cons,List.length_nil,yX,if_true,qU,qT,eL,eI,eLL,eB,Nat.zero_add,Nat.reduceAdd]
  intro M og cap
  refine qQ.of ?_
  ((refine gw199 (kk 8) (Y10 hdr hd0 hd1 hd2 f0 htm hg hset i1 i2) ?_);with_reducible (apply QS (qJ 27) (((Tab.none.pin 82 (nxtE code) hpin).pin 216 (drwE code (drwM code)) hdw).pin 217 (drwE code (drw0 (splG code))) hsp);refine QW ?_;simp only [Zg,Zi,seval,hdr,hd0,hd1,hd2,nxtE,drwE,f0,htm,hg,hset,i1,i2];rfl);(refine gw199 (kk 8) (Y10 hdr hd0 hd1 hd2 f0 htm hg hset i1 i2) ?_))
  ((refine gw199 (kk 8) (Y10 hdr hd0 hd1 hd2 f0 htm hg hset i1 i2) ?_);with_reducible (apply QS (qJ 27) (((Tab.none.pin 82 (nxtE code) hpin).pin 216 (drwE code (drwM code)) hdw).pin 217 (drwE code (drw0 (splG code))) hsp);refine QW ?_;simp only [Zg,Zi,seval,hdr,hd0,hd1,hd2,nxtE,drwE,f0,htm,hg,hset,i1,i2];rfl);(refine gw199 (kk 8) (Y10 hdr hd0 hd1 hd2 f0 htm hg hset i1 i2) ?_))
  ((refine gw199 (kk 8) (Y10 hdr hd0 hd1 hd2 f0 htm hg hset i1 i2) ?_);with_reducible (apply QS (qJ 27) (((Tab.none.pin 82 (nxtE code) hpin).pin 216 (drwE code (drwM code)) hdw).pin 217 (drwE code (drw0 (splG code))) hsp);refine QW ?_;simp only [Zg,Zi,seval,hdr,hd0,hd1,hd2,nxtE,drwE,f0,htm,hg,hset,i1,i2];rfl);(refine gw199 (kk 8) (Y10 hdr hd0 hd1 hd2 f0 htm hg hset i1 i2) ?_))
  ((refine gw199 (kk 8) (Y10 hdr hd0 hd1 hd2 f0 htm hg hset i1 i2) ?_);with_reducible (apply QS (qJ 27) (((Tab.none.pin 82 (nxtE code) hpin).pin 216 (drwE code (drwM code)) hdw).pin 217 (drwE code (drw0 (splG code))) hsp);refine QW ?_;simp only [Zg,Zi,seval,hdr,hd0,hd1,hd2,nxtE,drwE,f0,htm,hg,hset,i1,i2];rfl);(refine gw199 (kk 8) (Y10 hdr hd0 hd1 hd2 f0 htm hg hset i1 i2) ?_))
  ((refine gw199 (kk 8) (Y10 hdr hd0 hd1 hd2 f0 htm hg hset i1 i2) ?_);with_reducible (apply QS (qJ 27) (((Tab.none.pin 82 (nxtE code) hpin).pin 216 (drwE code (drwM code)) hdw).pin 217 (drwE code (drw0 (splG code))) hsp);refine QW ?_;simp only [Zg,Zi,seval,hdr,hd0,hd1,hd2,nxtE,drwE,f0,htm,hg,hset,i1,i2];rfl);(refine gw199 (kk 8) (Y10 hdr hd0 hd1 hd2 f0 htm hg hset i1 i2) ?_))
  ((refine gw199 (kk 8) (Y10 hdr hd0 hd1 hd2 f0 htm hg hset i1 i2) ?_);with_reducible (apply QS (qJ 27) (((Tab.none.pin 82 (nxtE code) hpin).pin 216 (drwE code (drwM code)) hdw).pin 217 (drwE code (drw0 (splG code))) hsp);refine QW ?_;simp only [Zg,Zi,seval,hdr,hd0,hd1,hd2,nxtE,drwE,f0,htm,hg,hset,i1,i2];rfl);(refine gw199 (kk 8) (Y10 hdr hd0 hd1 hd2 f0 htm hg hset i1 i2) ?_))
  refine qQ.frz 3 ?_
  refine gw7 (kk 8) Y0 ?_
  exact gw167 htl
 have f1:(c == 1) = false:=by simp [c1]
 rw [if_neg c1]
 by_cases c2:c = 2
 ·subst c2
  rw [if_pos rfl]
  refine AEp.of_runs (qJ 27) Tryz.func169 rfl rfl rfl (fun _ => rfl) gz ?_
  have hres:Tryz.f169.results.toList = [.tmp 2]:=rfl
  have hrts:Tryz.f169.resultTypes.toList = [24]:=rfl
  simp only [List.length_cons,List.length_nil,yX,if_true,qU,qT,eL,eI,eLL,eB,Nat.zero_add,Nat.reduceAdd]
  intro M og cap
  refine qQ.of ?_
  ((refine gw199 (kk 8) (Y5 hdr hd0 f0 f1 htm) ?_);with_reducible (apply QS (qJ 27) ((Tab.none.pin 82 (nxtE code) hpin).pin 216 (drwE code (drwM code)) hdw);refine QW ?_;simp only [Zg,Zi,seval,hdr,hd0,nxtE,drwE,f0,f1,htm];rfl);(refine gw199 (kk 8) (Y5 hdr hd0 f0 f1 htm) ?_))
  ((refine gw199 (kk 8) (Y5 hdr hd0 f0 f1 htm) ?_);with_reducible (apply QS (qJ 27) ((Tab.none.pin 82 (nxtE code) hpin).pin 216 (drwE code (drwM code)) hdw);refine QW ?_;simp only [Zg,Zi,seval,hdr,hd0,nxtE,drwE,f0,f1,htm];rfl);(refine gw199 (kk 8) (Y5 hdr hd0 f0 f1 htm) ?_))
  ((refine gw199 (kk 8) (Y5 hdr hd0 f0 f1 htm) ?_);with_reducible (apply QS (qJ 27) ((Tab.none.pin 82 (nxtE code) hpin).pin 216 (drwE code (drwM code)) hdw);refine QW ?_;simp only [Zg,Zi,seval,hdr,hd0,nxtE,drwE,f0,f1,htm];rfl);(refine gw199 (kk 8) (Y5 hdr hd0 f0 f1 htm) ?_))
  ((refine gw199 (kk 8) (Y5 hdr hd0 f0 f1 htm) ?_);with_reducible (apply QS (qJ 27) ((Tab.none.pin 82 (nxtE code) hpin).pin 216 (drwE code (drwM code)) hdw);refine QW ?_;simp only [Zg,Zi,seval,hdr,hd0,nxtE,drwE,f0,f1,htm];rfl);(refine gw199 (kk 8) (Y5 hdr hd0 f0 f1 htm) ?_))
  ((refine gw199 (kk 8) (Y5 hdr hd0 f0 f1 htm) ?_);with_reducible (apply QS (qJ 27) ((Tab.none.pin 82 (nxtE code) hpin).pin 216 (drwE code (drwM code)) hdw);refine QW ?_;simp only [Zg,Zi,seval,hdr,hd0,nxtE,drwE,f0,f1,htm];rfl);(refine gw199 (kk 8) (Y5 hdr hd0 f0 f1 htm) ?_))
  ((refine gw199 (kk 8) (Y5 hdr hd0 f0 f1 htm) ?_);with_reducible (apply QS (qJ 27) ((Tab.none.pin 82 (nxtE code) hpin).pin 216 (drwE code (drwM code)) hdw);refine QW ?_;simp only [Zg,Zi,seval,hdr,hd0,nxtE,drwE,f0,f1,htm];rfl);(refine gw199 (kk 8) (Y5 hdr hd0 f0 f1 htm) ?_))
  ((refine gw199 (kk 8) (Y5 hdr hd0 f0 f1 htm) ?_);with_reducible (apply QS (qJ 27) ((Tab.none.pin 82 (nxtE code) hpin).pin 216 (drwE code (drwM code)) hdw);refine QW ?_;simp only [Zg,Zi,seval,hdr,hd0,nxtE,drwE,f0,f1,htm];rfl);(refine gw199 (kk 8) (Y5 hdr hd0 f0 f1 htm) ?_))
  refine qQ.frz 3 ?_
  refine gw7 (kk 8) Y0 ?_
  exact gw167 htl
 have f2:(c == 2) = false:=by simp [c2]
 rw [if_neg c2]
 refine AEp.of_runs (qJ 27) Tryz.func169 rfl rfl rfl (fun _ => rfl) gz ?_
 have hres:Tryz.f169.results.toList = [.tmp 2]:=rfl
 have hrts:Tryz.f169.resultTypes.toList = [24]:=rfl
 simp only [List.length_cons,List.length_nil,yX,if_true,qU,qT,eL,eI,eLL,eB,Nat.zero_add,Nat.reduceAdd]
 intro M og cap
 refine qQ.of ?_
 ((refine gw199 (kk 8) (Y6 hdr hd0 f0 f1 f2 htm) ?_);with_reducible (apply QS (qJ 27) ((Tab.none.pin 82 (nxtE code) hpin).pin 216 (drwE code (drwM code)) hdw);refine QW ?_;simp only [Zg,Zi,seval,hdr,hd0,nxtE,drwE,f0,f1,f2,htm];rfl);(refine gw199 (kk 8) (Y6 hdr hd0 f0 f1 f2 htm) ?_))
 ((refine gw199 (kk 8) (Y6 hdr hd0 f0 f1 f2 htm) ?_);with_reducible (apply QS (qJ 27) ((Tab.none.pin 82 (nxtE code) hpin).pin 216 (drwE code (drwM code)) hdw);refine QW ?_;simp only [Zg,Zi,seval,hdr,hd0,nxtE,drwE,f0,f1,f2,htm];rfl);(refine gw199 (kk 8) (Y6 hdr hd0 f0 f1 f2 htm) ?_))
 ((refine gw199 (kk 8) (Y6 hdr hd0 f0 f1 f2 htm) ?_);with_reducible (apply QS (qJ 27) ((Tab.none.pin 82 (nxtE code) hpin).pin 216 (drwE code (drwM code)) hdw);refine QW ?_;simp only [Zg,Zi,seval,hdr,hd0,nxtE,drwE,f0,f1,f2,htm];rfl);(refine gw199 (kk 8) (Y6 hdr hd0 f0 f1 f2 htm) ?_))
 ((refine gw199 (kk 8) (Y6 hdr hd0 f0 f1 f2 htm) ?_);with_reducible (apply QS (qJ 27) ((Tab.none.pin 82 (nxtE code) hpin).pin 216 (drwE code (drwM code)) hdw);refine QW ?_;simp only [Zg,Zi,seval,hdr,hd0,nxtE,drwE,f0,f1,f2,htm];rfl);(refine gw199 (kk 8) (Y6 hdr hd0 f0 f1 f2 htm) ?_))
 ((refine gw199 (kk 8) (Y6 hdr hd0 f0 f1 f2 htm) ?_);with_reducible (apply QS (qJ 27) ((Tab.none.pin 82 (nxtE code) hpin).pin 216 (drwE code (drwM code)) hdw);refine QW ?_;simp only [Zg,Zi,seval,hdr,hd0,nxtE,drwE,f0,f1,f2,htm];rfl);(refine gw199 (kk 8) (Y6 hdr hd0 f0 f1 f2 htm) ?_))
 ((refine gw199 (kk 8) (Y6 hdr hd0 f0 f1 f2 htm) ?_);with_reducible (apply QS (qJ 27) ((Tab.none.pin 82 (nxtE code) hpin).pin 216 (drwE code (drwM code)) hdw);refine QW ?_;simp only [Zg,Zi,seval,hdr,hd0,nxtE,drwE,f0,f1,f2,htm];rfl);(refine gw199 (kk 8) (Y6 hdr hd0 f0 f1 f2 htm) ?_))
 refine qQ.frz 3 ?_
 refine gw7 (kk 8) Y0 ?_
 exact gw167 htl
theorem Own.litOne {α:Type} {R:Rep α} {w:World} {c:List Value} {x:α} {lo M:Nat} (h:Own R lo M w c x) (hM:M ≤ w.heap.size) (hlo:lo ≤ w.heap.size) (E:TypeId) {H:Nat} (hH:w.heap.size = H) :
  Own (RS R) lo (H + 1) (w.alloc (.cells c.toArray E)) [.slice (some ⟨H,0,none⟩) 1 1] [x]:=by
 subst hH
 obtain ⟨F,h1,h2,h3⟩:=h
 have hl:=R.rd_len (R.own_rd h1)
 have hrow:=Row.lit w c.toArray E R.k 1 (by decide) (by simpa using hl)
 refine ⟨w.heap.size :: F,⟨_,some w.heap.size,c,F,rfl,by simpa using hrow,ownL.single (R.own_frame h1 (fun b hb => Below.heap_alloc w _ b (R.own_lt h1 b hb))),rfl⟩,List.nodup_cons.2 ⟨fun hm => by have:=R.own_lt h1 _ hm;omega,h2⟩,fun b hb => ?_⟩
 rcases List.mem_cons.1 hb with rfl|hb
 ·exact ⟨hlo,by omega⟩
 ·have:=h3 b hb;omega
theorem Own.pair {β:Type} {S:Rep β} {w:World} {s:List Value} {n:Int} {x:β} {lo hi:Nat} (h:Own S lo hi w s x) (hn:qC n):Own (RP RI S) lo hi w (.int .i64 n :: s) (n,x) :=
 let ⟨F,h1,h2,h3⟩:=h
 ⟨F,⟨[.int .i64 n],s,[],F,rfl,rfl,⟨⟨rfl,hn⟩,rfl⟩,h1⟩,h2,h3⟩
def elOf (t:List Int):List (Int × List (List Int)) × Int:=if lev8 t = true then ([(1,[canon t])],0) else ([],1)
theorem elOf_ok {t:List Int} (h:lev8 t = true):elOf t = ([(1,[canon t])],0):=by unfold elOf;rw [if_pos h]
theorem elOf_bad {t:List Int} (h:lev8 t = false):elOf t = ([],1):=by unfold elOf;rw [if_neg (by simp [h])]
theorem k_impl_ElementOf (v:Value) (t:List Int) (w:World) (h:Rd (RS RI) w [v] t) :
  Calls Tryz.prog 40 #[v] w (RetOC (RS RPart) w (elOf t).1 (elOf t).2):=by
 have hlv:=xW0 v t w h
 cases h8:lev8 t
 ·have hr:=Lib.hid (elOf_bad h8)
  rw [h8] at hlv
  go_enter Tryz.func40,Tryz.ntmps40
  go_wp2_with fail
  refine hlv.mono ?_
  rintro e w' ⟨rfl,rfl⟩
  go_wp2_with fail
  go_ret2
  exact ⟨_,by rw [hr.out];rfl,by rw [hr.out];exact Own.nil _ _,Below.refl _ _⟩
 ·have hr:=Lib.hid (elOf_ok h8)
  rw [h8] at hlv
  have hl8:=lev8_len h8
  have hcn:=jN0 13 v t w h (kE h8) (by omega) (by omega)
  clear h h8
  go_enter Tryz.func40,Tryz.ntmps40
  go_wp2_with fail
  refine hlv.mono ?_
  rintro e w' ⟨rfl,rfl⟩
  go_wp2_with fail
  refine hcn.mono ?_
  rintro e w1 ⟨u,rfl,o1,b1⟩
  obtain ⟨ou,cu,rfl,_,_⟩:=o1.val
  have s1:=b1.size
  have q1:=o1.litOne (Nat.le_refl _) s1 24 rfl
  have q2:=(q1.pair (n:=1) (by unfold qC;omega)).litOne (by simp) (by simp;omega) 71 (H:=w1.heap.size + 1) (by simp)
  have c1:=b1.alloc s1 (.cells #[.slice ou (canon t).length cu] 24)
  have c2:=c1.alloc c1.size (.cells #[.int .i64 1,.slice (some ⟨w1.heap.size,0,none⟩) 1 1] 71)
  have Q2:=Lib.hid q2
  clear q1 q2 o1 hcn hlv
  go_wp2_with fail
  go_ret2
  exact ⟨_,by rw [hr.out];rfl,by rw [hr.out];exact Own.top Q2.out _ (Nat.le_refl _),c2⟩
def drawMp (code:List Int):List Int:=(mpAnyF code (src0 code)).1
theorem a_DrawIsMap {code:List Int} (hc:jM code) (hl:code.length ≤ 1000000000):AFn Tryz.prog 105 [eCode code] (· = [.val (.sl 1 ((drawMp code).map eI))]):=by
 have hfrom:=p_l01From hc hl
 have hs:(src0 code).1 ≤ code.length:=Nat.zero_le _
 have hd1:=vD (G:=mpAnyG code) hs
 have hda:=(p_l07DrawAny hc hl).ok
 unfold drawMp
 have e1:mpAnyG code (src0 code) = ([.val (.sl 1 ((mpAnyF code (src0 code)).1.map eI))],(mpAnyF code (src0 code)).2):=rfl
 rw [e1] at hd1
 obtain ⟨⟨t,s1⟩,hp⟩:∃ p,p = mpAnyF code (src0 code):=⟨_,rfl⟩
 rw [← hp] at hd1 ⊢
 simp only at hd1 ⊢
 simp only [eCode,dCode] at hfrom ⊢
 refine AFn.of_runs (qJ 6) Tryz.func105 rfl rfl rfl gz ?_
 have hres:Tryz.f105.results.toList = [.tmp 2]:=rfl
 have hrts:Tryz.f105.resultTypes.toList = [24]:=rfl
 simp only [qU,qT,eL,eI,eLL,eB,Nat.zero_add,Nat.reduceAdd,eCode,dCode]
 intro M
 refine qQ.of ?_
 ((refine gw74 (kk 3) Y0 ?_);with_reducible (apply QS (qJ 6) Tab.none;refine QW ?_;simp only [Zg,Zi,seval];rfl);(refine gw74 (kk 3) Y0 ?_))
 ((refine gw74 (kk 3) Y0 ?_);(with_reducible refine qQ.regCut (qJ 6) Tab.none 1 (s1:=?_) ?_ ?_);rotate_left 1;(focus ((with_reducible refine QW ?_);simp only [Zg,Zi,seval];with_reducible rfl));simp only [List.toList_toArray,List.drop_succ_cons,List.drop_zero])
 refine qY.callR (qJ 6) rfl (d:=4) rfl (by decide) rfl rfl rfl rfl hfrom rfl ?_
 intro b
 (refine qY.opsT (qJ 6) (T:=Tab.none.pin 169 (drwE code (drw0 (mpAnyG code))) hda) (s':=?_) ?_ ?_;rotate_left 1;focus (simp only [Zg,Zi,seval,hd1,drwE,srcD_len];with_reducible rfl))
 refine gw7 (kk 3) Y0 ?_
 exact gw8
theorem a_DrawInverseMap {code:List Int} (hc:jM code) (hl:code.length ≤ 1000000000):AFn Tryz.prog 50 [eCode code] (· = [.val (.sl 1 ((drawMp code).map eI))]):=by
 have h:=a_DrawIsMap hc hl
 simp only [eCode,dCode] at h ⊢
 refine AFn.of_runs (qJ 5) Tryz.func50 rfl rfl rfl gz ?_
 have hres:Tryz.f50.results.toList = [.tmp 2]:=rfl
 have hrts:Tryz.f50.resultTypes.toList = [24]:=rfl
 simp only [qU,qT,eL,eI,eLL,eB,Nat.zero_add,Nat.reduceAdd,eCode,dCode]
 intro M
 refine qQ.of ?_
 refine gw200 (kk 3) ?_
 exact gw8
theorem elB_szP {e:Elt} (h:elB e = true):szP e:=by
 obtain ⟨h1,_,_,h4⟩:=vY h
 have h6:∀ (L:Elt),(∀ q ∈ L,forB q.2 = true)→szN L ≤ 17 * L.length:=fun L => by
  induction L with
  | nil => intro _;simp [szN]
  | cons q L ih =>
   intro hL
   have h2:=ih fun x hx => hL x (by simp [hx])
   have h3:=forB_short (hL q (by simp))
   have h4:=(kQ (hL q (by simp))).1
   show (q.2.length + qX q.2) + szN L ≤ 17 * (L.length + 1)
   omega
 have h7:=h6 e h4
 unfold szP;omega
theorem a_TreeAt6 (i:Nat) (hi:i < T6.length) {t:List Int} (ht:t = T6[i]):AFn Tryz.prog 54 [eI i] (· = [.val (.sl 1 (t.map eI)),.val (.int 0)]):=by
 have hl:=vN
 have hi37:i < 37:=by rw [jA] at hi;exact hi
 have hin:=a_impl_inRange i 0 199
 have e:inR i 0 199 = true:=by unfold inR;simp;omega
 rw [e] at hin
 obtain ⟨r,hr⟩:=jT0 6 2
 have hi8:i < (allTo 8).length:=by omega
 have e8:(allTo 8)[i] = T6[i]'hi:=by
  have hr:allTo 8 = T6 ++ r:=hr
  simp only [hr]
  exact List.getElem_append_left hi
 have hto:AFn Tryz.prog 113 [[.int 8]] (· = [.val (.sl 1 ((allTo 8).map eL))]):=AFn.val1 (a_treesTo 8 (by decide))
 have hg:((allTo 8).map eL)[i]? = some [.sl 1 (t.map eI)]:=by rw [qD hi8,e8,← ht];rfl
 have hm:((allTo 8).map eL).length = 200:=by rw [List.length_map,hl]
 have i1:((i:Int) < 200) = True:=eq_true (by omega)
 have i2:((0:Int) ≤ (i:Int)) = True:=eq_true (by omega)
 obtain ⟨Z,hZ⟩:∃ Z,Z = (allTo 8).map eL:=⟨_,rfl⟩
 rw [← hZ] at hto hg hm
 simp only [eI] at hin
 refine AFn.of_runs (qJ 11) Tryz.func54 rfl rfl rfl gz ?_
 have hres:Tryz.f54.results.toList = [.tmp 2,.tmp 3]:=rfl
 have hrts:Tryz.f54.resultTypes.toList = [24,2]:=rfl
 simp only [qU,qT,eL,eI,eLL,eB,Nat.zero_add,Nat.reduceAdd]
 intro M
 refine qQ.of ?_
 refine gw201 (kk 4) (Y4 hg hm i1 i2) ?_
 exact gw8
theorem a_ElementT {t:List Int} (h:lev8 t = true) (hc:canon t = t):AFn Tryz.prog 40 [eL t] (· = [.val (.sl 2 ([(1,[t])].map ePt)),.val (.int 0)]):=by
 have h':AFn Tryz.prog 40 [eL t] (· = [.own RPart.k ((elOf t).1.map ePt) true,.val (.int (elOf t).2)]) :=
  AFn.of_oc encPt (by rw [elOf_ok h];show qC 0;unfold qC;decide) (enters_of Tryz.func40 rfl rfl) (fun w A vs ⟨v1,_,e1,h1,e2⟩ => by subst e2;subst e1;exact k_impl_ElementOf v1 t w (Rd.of (rd1 h1)))
 rw [elOf_ok h,hc] at h'
 exact AFn.valT2 h'
theorem xS0 (code:List Int) (hc:jM code):AFn Tryz.prog 8 [eCode code] (· = [.val (.bool true)]):=by
 have hbg:=a_big code
 by_cases hbig:4096 < code.length
 ·rw [decide_eq_true hbig] at hbg
  simp only [eCode,dCode] at hbg
  refine AFn.of_runs (qJ 101) Tryz.func8 rfl rfl rfl gz ?_
  have hres:Tryz.f8.results.toList = [.tmp 2]:=rfl
  have hrts:Tryz.f8.resultTypes.toList = [4]:=rfl
  simp only [qU,qT,eL,eI,eLL,eB,Nat.zero_add,Nat.reduceAdd,eCode,dCode]
  intro M
  refine qQ.of ?_
  refine gw202 (kk 19) ?_
  exact gw8
 rw [decide_eq_false hbig] at hbg
 have hl:code.length ≤ 1000000000:=by omega
 have hdr:=a_DrawInverseMap hc hl
 obtain ⟨a,hp⟩:∃ p,p = drawMp code:=⟨_,rfl⟩
 rw [← hp] at hdr
 have h1:=AFn.valT2 (a_impl_InverseMap a)
 have h2:=AFn.valT2 (a_spec_InverseMap a)
 have b0:((0:Int) != 0) = false:=by decide
 have b00:((0:Int) == 0) = true:=by decide
 simp only [eL] at h1 h2
 obtain ⟨C,hC⟩:∃ C,C = code.map eU:=⟨_,rfl⟩
 simp only [eCode,dCode] at hbg hdr
 rw [← hC] at hbg hdr
 by_cases hA:isMap a = true∧a.getD 0 0 = 1
 rotate_left
 ·obtain ⟨e1,e2⟩:=invOf_bad hA
  rw [e2] at h1 h2
  obtain ⟨c,hcd⟩:∃ c,c = cdM a a:=⟨_,rfl⟩
  rw [← hcd] at h1 h2 e1
  have bc0:(c != 0) = true:=bne_iff_ne.2 e1
  have bcc:(c != c) = false:=by simp
  refine AFn.of_runs (qJ 101) Tryz.func8 rfl rfl rfl gz ?_
  have hres:Tryz.f8.results.toList = [.tmp 2]:=rfl
  have hrts:Tryz.f8.resultTypes.toList = [4]:=rfl
  simp only [qU,qT,eL,eI,eLL,eB,Nat.zero_add,Nat.reduceAdd,eCode,dCode]
  intro M
  refine qQ.of ?_
  rw [← hC]
  refine gw203 (kk 19) (Y3 bc0 bcc b00) ?_
  exact gw8
 obtain ⟨_,e2⟩:=invOf_ok hA
 rw [e2] at h1 h2
 obtain ⟨hM,h1a⟩:=hA
 obtain ⟨hal,_⟩:=kR hM
 have hval:=fun i (hi:i < T6.length) t (ht:t = T6[i]) => ia_val hM hi ht
 have hil:=(kR (invM_map a)).1
 obtain ⟨v,hv⟩:∃ v,v = invM a:=⟨_,rfl⟩
 rw [← hv] at h1 h2 hil
 have hval:∀ i (hi:i < T6.length) t (ht:t = T6[i]),elB [(1,[t])] = true∧antOf [(1,[t])] = (antS t,0)∧elB (antS t) = true∧valOf (antS t) a.tail = (v.getD (i + 1) 0,0):=by rw [hv];exact hval
 have hroll:=p_roll hc hl 1074 (by decide)
 have hpin:=nxt_below hc hl
 obtain ⟨s0,hs0⟩:∃ s0,s0 = dice0 1074 code:=⟨_,rfl⟩
 have hs0l:s0.1 ≤ code.length:=by rw [hs0];exact Nat.zero_le _
 rw [← hs0] at hroll
 simp only [eCode,dCode] at hroll
 rw [← hC] at hroll
 have ham:(a.map eI).length = 38:=by rw [List.length_map,hal]
 have hvm:(v.map eI).length = 38:=by rw [List.length_map,hil]
 have htk:(a.map eI).take 38 = a.map eI:=List.take_of_length_le (by rw [ham];decide)
 have c38:((38:Nat):Int) = 38:=rfl
 have c1:(1:Int).toNat = 1:=rfl
 have hsl:(a.map eI).drop 1 = a.tail.map eI:=by rw [List.drop_one,List.map_tail]
 refine AFn.of_runs (qJ 101) Tryz.func8 rfl rfl rfl gz ?_
 have hres:Tryz.f8.results.toList = [.tmp 2]:=rfl
 have hrts:Tryz.f8.resultTypes.toList = [4]:=rfl
 simp only [qU,qT,eL,eI,eLL,eB,Nat.zero_add,Nat.reduceAdd,eCode,dCode]
 intro M
 refine qQ.of ?_
 rw [← hC]
 refine gw204 (kk 19) b0 ?_
 ((refine gw74 (kk 19) Y0 ?_);(with_reducible refine qQ.regCut (qJ 101) Tab.none 1 (s1:=?_) ?_ ?_);rotate_left 1;(focus ((with_reducible refine QW ?_);simp only [Zg,Zi,seval];with_reducible rfl));simp only [List.toList_toArray,List.drop_succ_cons,List.drop_zero])
 refine qY.callR (qJ 101) rfl (d:=42) rfl (by decide) rfl rfl rfl rfl hroll rfl ?_
 intro b
 (refine qY.opsT (qJ 101) (T:=Tab.none) (s':=?_) ?_ ?_;rotate_left 1;focus (simp only [Zg,Zi,seval];with_reducible rfl))
 refine gw7 (kk 19) Y0 ?_
 refine qQ.loop (β:=Nat × (Nat × Int)) (γ:=Unit) (fun x => ⟨[(3,.c (.val (.sl 1 (a.map eI)))),(4,.c (.val (.sl 1 (v.map eI)))),(8,.optr 42 0 0),(9,.c (.val (.int x.1)))],[(42,.pin (some b) 1 3 [srcD code x.2])]⟩) (fun x => x.1 ≤ 8∧x.2.1 ≤ code.length) (fun x => 8 - x.1)
  (fun _ => ⟨[],[]⟩) (fun _ => True) (0,s0) ⟨Nat.zero_le _,hs0l⟩ ?_ ?_ ?_
 ·exact gw205
 ·rintro ⟨n,s⟩ ⟨hn,hs⟩
  simp only at hn hs
  have hw:=qH (n:=n) (by omega)
  by_cases h:n < 8
  rotate_left
  ·have i1:((n:Int) < 8) = False:=eq_false (by omega)
   refine gw7 (kk 19) i1 ?_
   refine qZ.out () trivial ?_
   exact gw6 Y0
  have i1:((n:Int) < 8) = True:=eq_true (by omega)
  have hdr:=yM code s 37 hs
  have hbd:=xV hc s 37
  have hat:=jP (n:=37) hs
  obtain ⟨⟨ii,s1⟩,hp⟩:∃ p,p = nxtF code s 37:=⟨_,rfl⟩
  rw [← hp] at hdr hbd hat
  simp only [eI] at hdr hbd hat
  obtain ⟨i,rfl⟩:∃ i:Nat,ii = i:=⟨ii.toNat,by omega⟩
  have hi:i < T6.length:=by rw [jA];omega
  obtain ⟨t,ht⟩:∃ t,t = T6[i]:=⟨_,rfl⟩
  have hta:=a_TreeAt6 i hi ht
  obtain ⟨k1,k2,k3,k4⟩:=hval i hi t ht
  have htm:t ∈ T6:=by rw [ht];exact List.getElem_mem _
  obtain ⟨hct,hcl⟩:=T6_ok t htm
  obtain ⟨hlev,hcan⟩:=vH hct
  have hel:=a_ElementT (lev8_mk hlev (by omega)) hcan
  have han:=AFn.valT2 (a_impl_AntipodeOf [(1,[t])] (elB_szP k1))
  rw [k2] at han
  have hvo:=a_impl_ValueOf (antS t) a.tail (elB_szP k3)
  rw [k4] at hvo
  obtain ⟨S,hS⟩:∃ S,S = antS t:=⟨_,rfl⟩
  rw [← hS] at han hvo
  obtain ⟨E,hE⟩:∃ E,E = [((1:Int),[t])].map ePt:=⟨_,rfl⟩
  rw [← hE] at hel han
  have hg:(v.map eI)[i + 1]? = some [.int (v.getD (i + 1) 0)]:=by rw [qD (by omega),jU (by omega)];rfl
  obtain ⟨y,hy⟩:∃ y,y = v.getD (i + 1) 0:=⟨_,rfl⟩
  rw [← hy] at hvo hg
  have bxx:(y != y) = false:=by simp
  have i2:((0:Int) ≤ ((i + 1:Nat):Int)) = True:=eq_true (by omega)
  have i3:(((i + 1:Nat):Int) < 38) = True:=eq_true (by omega)
  have hw2:=qH (n:=i) (by omega)
  simp only [eI,eL] at hta hel hvo
  refine gw206 (kk 19) (Y12 hdr i1 i2 i3 b0 bxx ham hvm hsl htk c38 (Y4 c1 hg hw hw2)) ?_
  refine qZ.on (n + 1,s1) ⟨⟨h,hat⟩,by show 8 - (n + 1) < 8 - n;omega⟩ ?_
  exact gw187
 intro _ _
 refine gw7 (kk 19) Y0 ?_
 exact gw8
theorem kZ0 (v0:Value) (x0:List Int) (w:World) (h0:Rd RBytes w [v0] x0):Calls Tryz.prog 8 #[v0] w (RetV w (.bool true)):=law_code (fun code hc => xS0 code hc) v0 x0 w h0
end Go.Proofs.YtedgfkpfhonlpaaGreat
