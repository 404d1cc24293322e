/- Lemmas (12). -/
import Derived.Test.YtedgfkpfhonlpaaGreatZT0
import Derived.Test.YtedgfkpfhonlpaaGreatZT1
import Derived.Test.YtedgfkpfhonlpaaGreatZT6
import Derived.Test.YtedgfkpfhonlpaaGreatZT7
import Derived.Test.YtedgfkpfhonlpaaGreatZT10
import Derived.Test.YtedgfkpfhonlpaaGreatZT11
set_option maxHeartbeats 16000000
set_option maxRecDepth 100000
set_option linter.unusedSimpArgs false
set_option linter.unusedVariables false
namespace Go.Proofs.YtedgfkpfhonlpaaGreat
open Go.RowKit
def dforF (code:List Int):Nat→Nat→(Nat × Int)→List (List Int)→List (List Int) × (Nat × Int)
 | 0,_,s,out => (out,s)
 | f + 1,left,s,out =>
  if left = 0 then (out,s) else
  let p:=drawF code s left
  if out ≠ []∧(out.getLastD []).length ≤ left then
   let c:=nxtF code p.2 3
   let t:=if c.1 = 0 then out.getLastD [] else canon p.1
   dforF code f (left - t.length) c.2 (out ++ [t])
  else dforF code f (left - (canon p.1).length) p.2 (out ++ [canon p.1])
def xY (code:List Int) (s:Nat × Int) (m:Int):List (List Int) × (Nat × Int) :=
 let n:=nxtF code s (m + 1)
 let r:=dforF code n.1.toNat n.1.toNat n.2 []
 (forest r.1,r.2)
structure FOk (n:Nat) (f:List (List Int)):Prop where
 lev:∀ t ∈ f,qY t
 can:∀ t ∈ f,canon t = t
 sum:qJ f ≤ n
theorem qY.posL {t:List Int} (h:qY t):0 < t.length:=h.pos
theorem FOk.snoc {n k:Nat} {f:List (List Int)} {t:List Int} (h:FOk n f) (hl:qY t) (hc:canon t = t) (hk:t.length ≤ k):FOk (n + k) (f ++ [t]):=by
 refine ⟨fun x hx => ?_,fun x hx => ?_,?_⟩
 ·rcases List.mem_append.1 hx with hx|hx
  ·exact h.lev x hx
  ·rw [List.mem_singleton] at hx;subst hx;exact hl
 ·rcases List.mem_append.1 hx with hx|hx
  ·exact h.can x hx
  ·rw [List.mem_singleton] at hx;subst hx;exact hc
 ·have:=h.sum
  rw [kR]
  have:qJ [t] = t.length:=by simp [qJ]
  omega
theorem getLastL_mem {f:List (List Int)} (h:f ≠ []):f.getLastD [] ∈ f:=by
 cases f with
 | nil => exact absurd rfl h
 | cons a t => rw [List.getLastD_cons];exact (by cases t <;> simp [List.getLastD])
theorem dforF_ok {code:List Int} (hc:jA code):∀ (fu left n:Nat) {s:Nat × Int} {out:List (List Int)},FOk n out→s.1 ≤ code.length→FOk (n + left) (dforF code fu left s out).1∧(dforF code fu left s out).2.1 ≤ code.length
 | 0,left,n,s,out,h,hs => ⟨⟨h.lev,h.can,by have:=h.sum;show qJ out ≤ _;omega⟩,hs⟩
 | fu + 1,left,n,s,out,h,hs => by
  have h':FOk (n + left) out:=⟨h.lev,h.can,by have:=h.sum;omega⟩
  unfold dforF
  split
  ·exact ⟨h',hs⟩
  ·rename_i hl0
   obtain ⟨h1,h2⟩:=vF hc (m:=left) hs
   have h3:=drawF_len hc (m:=left) hs (by omega)
   have hlev:=yE h1.lev
   have hlen:=xN h1.lev
   have hidem:=kH h1.lev
   obtain ⟨p,hp⟩:∃ p,p = drawF code s left:=⟨_,rfl⟩
   rw [← hp] at h1 h2 h3 hlev hlen hidem ⊢
   simp only
   have h3:p.1.length ≤ left:=by omega
   have key:∀ (t:List Int) (s':Nat × Int),qY t→canon t = t→t.length ≤ left→s'.1 ≤ code.length→FOk (n + left) (dforF code fu (left - t.length) s' (out ++ [t])).1∧(dforF code fu (left - t.length) s' (out ++ [t])).2.1 ≤ code.length:=by
    intro t s' k1 k2 k3 k4
    have:=dforF_ok hc fu (left - t.length) (n + t.length) (h.snoc k1 k2 (Nat.le_refl _)) k4
    rw [show n + t.length + (left - t.length) = n + left by omega] at this
    exact this
   split
   ·rename_i ho
    have hm:=getLastL_mem ho.1
    have h4:=yY (n:=3) h2
    split
    ·exact key _ _ (h.lev _ hm) (h.can _ hm) ho.2 h4
    ·exact key _ _ hlev hidem (by omega) h4
   ·exact key _ _ hlev hidem (by omega) h2
theorem lastL_get {f:List (List Int)} (h:f ≠ []):Option.map eL f.getLast? = some [.sl 1 ((f.getLastD []).map eI)]:=by
 cases f with
 | nil => exact absurd rfl h
 | cons a t => rw [List.getLast?_cons,List.getLastD_cons,← List.getLastD_eq_getLast?];rfl
theorem len_sumD {f:List (List Int)} (h:∀ t ∈ f,qY t):f.length ≤ qJ f:=by
 induction f with
 | nil => exact Nat.le_refl _
 | cons a f ih =>
  have h1:=(h a (by simp)).pos
  have h2:=ih (fun t ht => h t (by simp [ht]))
  have e:qJ (a :: f) = a.length + qJ f:=by simp [qJ]
  rw [e,List.length_cons];omega
def vI (code:List Int) (s:Nat × Int) (m:Int):List Res × (Nat × Int):=([.own 1 ((xY code s m).1.map eL) true],(xY code s m).2)
theorem p_l03DrawForest {code:List Int} (hc:jA code) (hl:code.length ≤ 1000000000):DrawsE Tryz.prog 125 code (drw1 (vI code)):=by
 refine drw1_of fun s m hs hm1 hm2 => ?_
 have hpin:=qB0 hc hl
 have hdw:=(p_l03Draw hc hl).ok
 have hw0:w64 (m + 1) = m + 1:=qR (by omega)
 have hdr:=xK code s (m + 1) hs
 have hbd:=yH hc s (m + 1)
 have hat:=yY (n:=m + 1) hs
 unfold vI xY
 obtain ⟨⟨nn,s1⟩,hp⟩:∃ p,p = nxtF code s (m + 1):=⟨_,rfl⟩
 rw [← hp] at hdr hbd hat ⊢
 simp only [eI] at hdr hbd hat ⊢
 obtain ⟨n,rfl⟩:∃ n:Nat,nn = n:=⟨nn.toNat,by omega⟩
 have hn:n ≤ 1000:=by omega
 rw [Int.toNat_natCast]
 have hok:=(dforF_ok hc n n 0 (s:=s1) (out:=[]) ⟨by simp,by simp,by simp [qJ]⟩ hat).1
 obtain ⟨Z,hZ⟩:∃ Z,Z = dforF code n n s1 []:=⟨_,rfl⟩
 rw [← hZ] at hok ⊢
 have hso:=a_l03Sort Z.1 (by
  have:=len_sumD (f:=Z.1) hok.lev
  have:=hok.sum
  omega) (fun b hb => by
  have:=yX hb
  have:=hok.sum
  omega)
 simp only [eLL,eL] at hso
 refine AEp.of_runs (qX 60) Tryz.func125 rfl rfl rfl (fun _ => rfl) gz ?_
 have hres:Tryz.f125.results.toList = [.tmp 4]:=rfl
 have hrts:Tryz.f125.resultTypes.toList = [36]:=rfl
 simp only [List.length_cons,List.length_nil,yJ,if_true,qK,qA,eL,eI,eLL,eB,Nat.zero_add,Nat.reduceAdd]
 intro M og cap
 refine qQ.of ?_
 repeat' (first|with_reducible (first|refine Q1 ?_|refine Q2 ?_|refine Q3 ?_|refine Q4 ?_|refine Q5 ?_|refine Q6 ?_|refine Q7 ?_|refine Q8 ?_|refine Q9 ?_|refine Qa ?_|refine Qb ?_|refine Qc ?_|refine Qd ?_|refine Qe ?_|refine Qf ?_|refine QO ?_|refine QV 8 ?_|refine QY 8 ?_)|with_reducible ((first|apply QS (qX 60) (Tab.none.pin 82 (nxtE code) hpin)|apply QC);refine QW ?_;simp only [Zg,Zi,seval,hdr,nxtE,hw0];rfl))
 refine qQ.loop (β:=Nat × Nat × (Nat × Int) × List (List Int)) (γ:=Unit) (fun x => ⟨[(0,.optr 0 0 0),(5,.c (.own 5 x.2.2.2.length)),(6,.c (.val (.int x.2.1)))],[(0,.pin og cap 3 [srcD code x.2.2.1]),(5,.row 1 (x.2.2.2.map eL) false)]⟩)
  (fun x => x.2.1 ≤ x.1∧x.2.1 ≤ n∧x.2.2.1.1 ≤ code.length∧FOk (n - x.2.1) x.2.2.2∧dforF code x.1 x.2.1 x.2.2.1 x.2.2.2 = Z) (fun x => x.2.1)
  (fun _ => ⟨[(0,.optr 0 0 0),(5,.c (.own 5 Z.1.length))],[(0,.pin og cap 3 [srcD code Z.2]),(5,.row 1 (Z.1.map eL) false)]⟩) (fun _ => True) (n,n,s1,[]) ⟨Nat.le_refl _,Nat.le_refl _,hat,⟨by simp,by simp,by simp [qJ]⟩,hZ.symm⟩ ?_ ?_ ?_
 ·(repeat' (first|exact Qn|((with_reducible refine Qr ?_ ?_);focus first|with_reducible rfl|(simp only [Zz,Nat.reduceBEq,List.map_nil,List.length_nil];done)|rfl)|((with_reducible apply Qj);rfl)|((with_reducible refine Qw ?_ ?_);(focus first|with_reducible rfl|(simp only [Zv,List.map_nil,List.length_nil];done));first|exact id|exact nofun|exact fun _=>rfl)))
  all_goals first|exact ⟨rfl,rfl⟩|exact ⟨rfl,rfl,id⟩|exact ⟨rfl,rfl,rfl,rfl⟩|exact ⟨rfl,rfl,fun h => nomatch h⟩
 ·rintro ⟨k,left,s,out⟩ ⟨hlk,hln,hs,hfo,hdz⟩
  simp only at hlk hln hs hfo hdz
  by_cases h0:0 < left
  rotate_left
  ·obtain rfl:left = 0:=by omega
   have e:dforF code k 0 s out = (out,s):=by cases k <;> rfl
   rw [e] at hdz
   have i1:(((0:Nat):Int) > 0) = False:=eq_false (by omega)
   rw [← hdz]
   repeat' (first|with_reducible (first|refine Q1 ?_|refine Q2 ?_|refine Q3 ?_|refine Q4 ?_|refine Q5 ?_|refine Q6 ?_|refine Q7 ?_|refine Q8 ?_|refine Q9 ?_|refine Qa ?_|refine Qb ?_|refine Qc ?_|refine Qd ?_|refine Qe ?_|refine Qf ?_|refine QO ?_|refine QV 8 ?_|refine QY 8 ?_)|with_reducible ((first|apply QS (qX 60) Tab.none|apply QC);refine QW ?_;simp only [Zg,Zi,seval,i1];rfl))
   refine qW.out () trivial ?_
   (repeat' (first|exact Qn|((with_reducible refine Qr ?_ ?_);focus first|with_reducible rfl|(simp only [Zz,Nat.reduceBEq];done)|rfl)|((with_reducible apply Qj);rfl)|((with_reducible refine Qw ?_ ?_);(focus first|with_reducible rfl|(simp only [Zv];done));first|exact id|exact nofun|exact fun _=>rfl)))
   all_goals first|exact ⟨rfl,rfl⟩|exact ⟨rfl,rfl,id⟩|exact ⟨rfl,rfl,rfl,rfl⟩
  obtain ⟨k,rfl⟩:∃ j,k = j + 1:=⟨k - 1,by omega⟩
  have i1:((left:Int) > 0) = True:=eq_true (by omega)
  have hdt:drwG code (drw1 (drawG code)) 3 [srcD code s] [[.int (left:Int)]] = some ([.own 1 ((drawF code s left).1.map eI) true],[srcD code (drawF code s left).2]):=vK hs ⟨by omega,by omega⟩
  obtain ⟨g1,g2⟩:=vF hc (m:=left) hs
  have g3:=drawF_len hc (m:=left) hs (by omega)
  have gl:=yE g1.lev
  have gn:=xN g1.lev
  have gi:=kH g1.lev
  have hca:=jC0 (drawF code s left).1 g1.lev (by omega)
  have hds:dforF code (k + 1) left s out = (if out ≠ []∧(out.getLastD []).length ≤ left then
    dforF code k (left - (if (nxtF code (drawF code s left).2 3).1 = 0 then out.getLastD [] else canon (drawF code s left).1).length) (nxtF code (drawF code s left).2 3).2 (out ++ [if (nxtF code (drawF code s left).2 3).1 = 0 then out.getLastD [] else canon (drawF code s left).1])
   else dforF code k (left - (canon (drawF code s left).1).length) (drawF code s left).2 (out ++ [canon (drawF code s left).1])):=by
   show (if left = 0 then (out,s) else _) = _
   rw [if_neg (by omega)]
  rw [hds] at hdz
  obtain ⟨⟨p,s2⟩,hp2⟩:∃ q,q = drawF code s left:=⟨_,rfl⟩
  rw [← hp2] at hdt g1 g2 g3 gl gn gi hca hdz
  simp only at hdt g1 g2 g3 gl gn gi hca hdz
  obtain ⟨ct,hct⟩:∃ ct,ct = canon p:=⟨_,rfl⟩
  rw [← hct] at gl gn gi hca hdz
  have hol:=len_sumD (f:=out) hfo.lev
  have hos:=hfo.sum
  have hom:(out.map eL).length = out.length:=List.length_map _
  have q1:=jS (n:=out.length + 1) (by omega)
  have q2:=jO (n:=out.length + 1) (c:=24) (by omega) (by omega)
  have hwl:w64 (((out.length + 1:Nat):Int) - 1) = (out.length:Int):=by rw [qR (by omega)];omega
  have k2:((0:Int) ≤ (out.length:Int)) = True:=eq_true (by omega)
  have k3:((out.length:Int) < ((out.length + 1:Nat):Int)) = True:=eq_true (by omega)
  have key:∀ (t:List Int) (s':Nat × Int),qY t→canon t = t→t.length ≤ left→s'.1 ≤ code.length→dforF code k (left - t.length) s' (out ++ [t]) = Z →
    (left - t.length ≤ k∧left - t.length ≤ n∧s'.1 ≤ code.length∧FOk (n - (left - t.length)) (out ++ [t])∧dforF code k (left - t.length) s' (out ++ [t]) = Z)∧left - t.length < left:=fun t s' h1 h2 h3 h4 h5 => by
   have:=h1.posL
   have hsn:=hfo.snoc h1 h2 (Nat.le_refl t.length)
   refine ⟨⟨by omega,by omega,h4,?_,h5⟩,by omega⟩
   rw [show n - (left - t.length) = n - left + t.length by omega]
   exact hsn
  have hgt:∀ t:List Int,(out.map eL ++ [[D.sl 1 (t.map eI)]])[out.length]? = some [D.sl 1 (t.map eI)]:=fun t => by
   rw [List.getElem?_append_right (by rw [hom];exact Nat.le_refl _),hom,Nat.sub_self];rfl
  have hgtl:∀ t:List Int,(out.map eL ++ [[D.sl 1 (t.map eI)]]).length = out.length + 1:=fun t => by rw [List.length_append,hom];rfl
  simp only [eL] at hca
  by_cases ho:out = []
  ·subst ho
   rw [if_neg (fun h => h.1 rfl)] at hdz
   obtain ⟨kk,kl⟩:=key ct s2 gl gi (by omega) g2 hdz
   have z1:(((0:Nat):Int) > 0) = False:=eq_false (by omega)
   have hcl:(ct.map eI).length = ct.length:=List.length_map _
   have hw6:w64 ((left:Int) - (ct.length:Int)) = ((left - ct.length:Nat):Int):=by rw [qR (by omega)];omega
   have u1:w64 (1 - 1) = 0:=by rw [qR (by omega)];rfl
   have u2:((0:Int) ≤ 0) = True:=eq_true (by omega)
   have u3:((0:Int) < 1) = True:=eq_true (by omega)
   have t0:(0:Int).toNat = 0:=rfl
   have u0:w64 0 = 0:=by rw [qR (by omega)]
   have u1':w64 (((1:Nat):Int) - 1) = 0:=by rw [qR (by omega)];rfl
   have u3':((0:Int) < ((1:Nat):Int)) = True:=eq_true (by omega)
   repeat' (first|with_reducible (first|refine Q1 ?_|refine Q2 ?_|refine Q3 ?_|refine Q4 ?_|refine Q5 ?_|refine Q6 ?_|refine Q7 ?_|refine Q8 ?_|refine Q9 ?_|refine Qa ?_|refine Qb ?_|refine Qc ?_|refine Qd ?_|refine Qe ?_|refine Qf ?_|refine QO ?_|refine QV 8 ?_|refine QY 8 ?_)|with_reducible ((first|apply QS (qX 60) ((((Tab.none.pin 82 (nxtE code) hpin).pin 126 (drwE code (drw1 (drawG code))) hdw).at' 186 hca))|apply QC);refine QW ?_;simp only [Zg,Zi,seval,hdt,nxtE,drwE,i1,z1,q1,q2,hcl,hw6,u0,u1,u1',u2,u3,u3',t0];rfl))
   refine qW.on (k,left - ct.length,s2,[ct]) ⟨kk,kl⟩ ?_
   (repeat' (first|exact Qn|((with_reducible refine Qr ?_ ?_);focus first|with_reducible rfl|(simp only [Zz,Nat.reduceBEq,List.map_cons,List.map_nil,eL,List.length_singleton];done)|rfl)|((with_reducible apply Qj);rfl)|((with_reducible refine Qw ?_ ?_);(focus first|with_reducible rfl|(simp only [Zv,List.map_cons,List.map_nil,eL,List.length_singleton];done));first|exact id|exact nofun|exact fun _=>rfl)))
   all_goals first|exact ⟨rfl,rfl⟩|exact ⟨rfl,rfl,id⟩|exact ⟨rfl,rfl,rfl,rfl⟩|exact ⟨rfl,rfl,fun h => nomatch h⟩
  have hop:0 < out.length:=List.length_pos_iff.2 ho
  have z1:((out.length:Int) > 0) = True:=eq_true (by omega)
  have hlm:=getLastL_mem ho
  have hll:=yX hlm
  have hlv:=hfo.lev _ hlm
  have hlc:=hfo.can _ hlm
  have hgl:(out.map eL)[out.length - 1]? = some [.sl 1 ((out.getLastD []).map eI)]:=by
   rw [List.getElem?_map,← List.getLast?_eq_getElem?]
   exact lastL_get ho
  obtain ⟨la,hla⟩:∃ la,la = out.getLastD []:=⟨_,rfl⟩
  rw [← hla] at hll hlv hlc hgl hdz
  have hlaM:(la.map eI).length = la.length:=List.length_map _
  have w5:w64 ((out.length:Int) - 1) = ((out.length - 1:Nat):Int):=by rw [qR (by omega)];omega
  have k5:((0:Int) ≤ ((out.length - 1:Nat):Int)) = True:=eq_true (by omega)
  have k6:(((out.length - 1:Nat):Int) < (out.length:Int)) = True:=eq_true (by omega)
  have hcl:(ct.map eI).length = ct.length:=List.length_map _
  have tail:∀ (t:List Int) (s':Nat × Int),t.length ≤ left→(t.map eI).length = t.length∧w64 ((left:Int) - (t.length:Int)) = ((left - t.length:Nat):Int):=fun t s' h => ⟨List.length_map _,by rw [qR (by omega)];omega⟩
  by_cases hle:la.length ≤ left
  rotate_left
  ·rw [if_neg (fun h => hle h.2)] at hdz
   obtain ⟨kk,kl⟩:=key ct s2 gl gi (by omega) g2 hdz
   have z2:((la.length:Int) ≤ (left:Int)) = False:=eq_false (by omega)
   obtain ⟨_,hw6⟩:=tail ct s2 (by omega)
   repeat' (first|with_reducible (first|refine Q1 ?_|refine Q2 ?_|refine Q3 ?_|refine Q4 ?_|refine Q5 ?_|refine Q6 ?_|refine Q7 ?_|refine Q8 ?_|refine Q9 ?_|refine Qa ?_|refine Qb ?_|refine Qc ?_|refine Qd ?_|refine Qe ?_|refine Qf ?_|refine QO ?_|refine QV 8 ?_|refine QY 8 ?_)|with_reducible ((first|apply QS (qX 60) ((((Tab.none.pin 82 (nxtE code) hpin).pin 126 (drwE code (drw1 (drawG code))) hdw).at' 186 hca))|apply QC);refine QW ?_;simp only [Zg,Zi,seval,hdt,nxtE,drwE,i1,z1,z2,q1,q2,hcl,hw6,hom,w5,k5,k6,hgl,hlaM,hwl,k2,k3,hgt,hgtl,Int.toNat_natCast];rfl))
   refine qW.on (k,left - ct.length,s2,out ++ [ct]) ⟨kk,kl⟩ ?_
   (repeat' (first|exact Qn|((with_reducible refine Qr ?_ ?_);focus first|with_reducible rfl|(simp only [Zz,Nat.reduceBEq,List.map_append,List.map_cons,List.map_nil,eL,List.length_append,List.length_singleton];done)|rfl)|((with_reducible apply Qj);rfl)|((with_reducible refine Qw ?_ ?_);(focus first|with_reducible rfl|(simp only [Zv,List.map_append,List.map_cons,List.map_nil,eL,List.length_append,List.length_singleton];done));first|exact id|exact nofun|exact fun _=>rfl)))
   all_goals first|exact ⟨rfl,rfl⟩|exact ⟨rfl,rfl,id⟩|exact ⟨rfl,rfl,rfl,rfl⟩|exact ⟨rfl,rfl,fun h => nomatch h⟩
  ·rw [if_pos ⟨ho,hle⟩] at hdz
   have z2:((la.length:Int) ≤ (left:Int)) = True:=eq_true (by omega)
   have hd3:=xK code s2 3 g2
   have ha3:=yY (n:=3) g2
   obtain ⟨⟨cc,s3⟩,hc3⟩:∃ q,q = nxtF code s2 3:=⟨_,rfl⟩
   rw [← hc3] at hd3 ha3 hdz
   simp only [eI] at hd3 ha3 hdz
   by_cases hc0:cc = 0
   ·subst hc0
    rw [if_pos rfl] at hdz
    obtain ⟨kk,kl⟩:=key la s3 hlv hlc hle ha3 hdz
    obtain ⟨_,hw6⟩:=tail la s3 hle
    have how:=a_l01Own la (by omega)
    simp only [eL] at how
    repeat' (first|with_reducible (first|refine Q1 ?_|refine Q2 ?_|refine Q3 ?_|refine Q4 ?_|refine Q5 ?_|refine Q6 ?_|refine Q7 ?_|refine Q8 ?_|refine Q9 ?_|refine Qa ?_|refine Qb ?_|refine Qc ?_|refine Qd ?_|refine Qe ?_|refine Qf ?_|refine QO ?_|refine QV 8 ?_|refine QY 8 ?_)|with_reducible ((first|apply QS (qX 60) (((((Tab.none.pin 82 (nxtE code) hpin).pin 126 (drwE code (drw1 (drawG code))) hdw).at' 186 hca).at' 133 how))|apply QC);refine QW ?_;simp only [Zg,Zi,seval,hdt,hd3,nxtE,drwE,i1,z1,z2,q1,q2,hcl,hw6,hom,w5,k5,k6,hgl,hlaM,hwl,k2,k3,hgt,hgtl,Int.toNat_natCast];rfl))
    refine qW.on (k,left - la.length,s3,out ++ [la]) ⟨kk,kl⟩ ?_
    (repeat' (first|exact Qn|((with_reducible refine Qr ?_ ?_);focus first|with_reducible rfl|(simp only [Zz,Nat.reduceBEq,List.map_append,List.map_cons,List.map_nil,eL,List.length_append,List.length_singleton];done)|rfl)|((with_reducible apply Qj);rfl)|((with_reducible refine Qw ?_ ?_);(focus first|with_reducible rfl|(simp only [Zv,List.map_append,List.map_cons,List.map_nil,eL,List.length_append,List.length_singleton];done));first|exact id|exact nofun|exact fun _=>rfl)))
    all_goals first|exact ⟨rfl,rfl⟩|exact ⟨rfl,rfl,id⟩|exact ⟨rfl,rfl,rfl,rfl⟩|exact ⟨rfl,rfl,fun h => nomatch h⟩
   ·rw [if_neg hc0] at hdz
    obtain ⟨kk,kl⟩:=key ct s3 gl gi (by omega) ha3 hdz
    obtain ⟨_,hw6⟩:=tail ct s3 (by omega)
    have bc0:(cc == 0) = false:=by simp [hc0]
    repeat' (first|with_reducible (first|refine Q1 ?_|refine Q2 ?_|refine Q3 ?_|refine Q4 ?_|refine Q5 ?_|refine Q6 ?_|refine Q7 ?_|refine Q8 ?_|refine Q9 ?_|refine Qa ?_|refine Qb ?_|refine Qc ?_|refine Qd ?_|refine Qe ?_|refine Qf ?_|refine QO ?_|refine QV 8 ?_|refine QY 8 ?_)|with_reducible ((first|apply QS (qX 60) ((((Tab.none.pin 82 (nxtE code) hpin).pin 126 (drwE code (drw1 (drawG code))) hdw).at' 186 hca))|apply QC);refine QW ?_;simp only [Zg,Zi,seval,hdt,hd3,nxtE,drwE,i1,z1,z2,bc0,q1,q2,hcl,hw6,hom,w5,k5,k6,hgl,hlaM,hwl,k2,k3,hgt,hgtl,Int.toNat_natCast];rfl))
    refine qW.on (k,left - ct.length,s3,out ++ [ct]) ⟨kk,kl⟩ ?_
    (repeat' (first|exact Qn|((with_reducible refine Qr ?_ ?_);focus first|with_reducible rfl|(simp only [Zz,Nat.reduceBEq,List.map_append,List.map_cons,List.map_nil,eL,List.length_append,List.length_singleton];done)|rfl)|((with_reducible apply Qj);rfl)|((with_reducible refine Qw ?_ ?_);(focus first|with_reducible rfl|(simp only [Zv,List.map_append,List.map_cons,List.map_nil,eL,List.length_append,List.length_singleton];done));first|exact id|exact nofun|exact fun _=>rfl)))
    all_goals first|exact ⟨rfl,rfl⟩|exact ⟨rfl,rfl,id⟩|exact ⟨rfl,rfl,rfl,rfl⟩|exact ⟨rfl,rfl,fun h => nomatch h⟩
 ·rintro _ _
  repeat' (first|with_reducible (first|refine Q1 ?_|refine Q2 ?_|refine Q3 ?_|refine Q4 ?_|refine Q5 ?_|refine Q6 ?_|refine Q7 ?_|refine Q8 ?_|refine Q9 ?_|refine Qa ?_|refine Qb ?_|refine Qc ?_|refine Qd ?_|refine Qe ?_|refine Qf ?_|refine QO ?_|refine QV 8 ?_|refine QY 8 ?_)|with_reducible ((first|apply QS (qX 60) (Tab.none.at' 187 hso)|apply QC);refine QW ?_;simp only [Zg,Zi,seval,eL];rfl))
  (refine EndsP.mk (by simp) (rs:=?_) (ks:=?_) (xs':=?_) hres hrts ?_ ?_ ?_ ?_ ?_;rotate_left 3;(focus (simp only [Ze,Zg,Zi,seval];with_reducible rfl));(focus simp);(focus simp);(focus (simp only [look,Nat.reduceEqDiff,Nat.reduceBEq,if_true,if_false];rfl));focus (first|exact ⟨rfl,rfl⟩|exact ⟨rfl,rfl,rfl⟩|skip))
def RU:Rep Int where
 k:=1
 rd:=fun _ _ cs n => cs = [.int .u8 n]∧0 ≤ n∧n ≤ 255
 own:=fun _ cs n F => (cs = [.int .u8 n]∧0 ≤ n∧n ≤ 255)∧F = []
 kpos:=by decide
 rd_len:=by intro A w cs x h;rw [h.1];rfl
 rd_one:=by intro A w cs x h v hv;rw [h.1] at hv;simp at hv;subst hv;rfl
 rd_frame:=fun h _ => h
 rd_mono:=fun h _ => h
 own_rd:=fun h => h.1
 own_frame:=fun h _ => h
 own_lt:=by intro w cs x F h b hb;rw [h.2] at hb;simp at hb
abbrev RBytes:Rep (List Int):=RS RU
theorem opU8:Opens Tryz.prog RU 5:=by
 intro H enc w base spare held fuel cs x h
 obtain ⟨n,rfl,_,hw⟩:=DataW.trod_int Tryz.underlying5 h
 exact ⟨n,rfl,bounds_u8 hw⟩
theorem opBytes:Opens Tryz.prog RBytes 22:=Opens.slice Tryz.underlying22 (by kernel_rfl) opU8
theorem rdU_to {A:Nat→Prop} {w:World}:∀ {code:List Int} {ds:List Value},rdL RU A w ds code→rdL (RK 1 (by decide) (RC 0)) A w ds (code.map eU)∧jA code
 | [],_,h => ⟨h,fun c hc => nomatch hc⟩
 | c :: code,ds,⟨c1,d1,e,⟨h1,h2,h3⟩,h4⟩ => by
  obtain ⟨h5,h6⟩:=rdU_to h4
  refine ⟨⟨c1,d1,e,⟨by rw [h1];rfl,rfl,?_⟩,h5⟩,fun x hx => ?_⟩
  ·rw [h1]
   exact kL.2 ⟨rfl,rfl⟩
  ·rcases List.mem_cons.1 hx with rfl|hx
   ·omega
   ·exact h6 x hx
theorem arg_bytes {w:World} {u:Value} {code:List Int} (h:Rd RBytes w [u] code):kW (· < w.heap.size) w (eCode code) u∧jA code:=by
 obtain ⟨oa,cap,ds,h1,h2,h3,h4,h5,h6⟩:=h
 obtain ⟨k1,k2⟩:=rdU_to h5
 refine ⟨?_,k2⟩
 show rdV _ w u (.sl 1 (code.map eU))
 rw [yT]
 rw [List.length_map]
 exact ⟨oa,cap,ds,(List.cons.inj h1).1,h2,h3,h4,⟨0,by decide,k1⟩,h6⟩
theorem law_code {f:FuncId} (hf:∀ code:List Int,jA code→AFn Tryz.prog f [eCode code] (· = [.val (.bool true)])) (v:Value) (code:List Int) (w:World) (h:Rd RBytes w [v] code):Calls Tryz.prog f #[v] w (RetV w (.bool true)):=by
 obtain ⟨h1,h2⟩:=arg_bytes h
 exact AFn.one (fun _ _ _ h => jC.1 h) (hf code h2) (args1 h1)
theorem a_big (code:List Int):AFn Tryz.prog 10 [eCode code] (· = [.val (.bool (decide (4096 < code.length)))]):=by
 by_cases h:4096 < code.length
 ·have i1:((code.length:Int) > 4096) = True:=eq_true (by omega)
  rw [decide_eq_true h]
  refine AFn.of_runs (qX 6) Tryz.func10 rfl rfl rfl gz ?_
  have hres:Tryz.f10.results.toList = [.tmp 2]:=rfl
  have hrts:Tryz.f10.resultTypes.toList = [4]:=rfl
  simp only [qK,qA,eL,eI,eLL,eB,Nat.zero_add,Nat.reduceAdd,eCode,dCode]
  intro M
  refine qQ.of ?_
  refine gw5 (kk 3) i1 ?_
  exact gw8
 ·have i1:((code.length:Int) > 4096) = False:=eq_false (by omega)
  rw [decide_eq_false h]
  refine AFn.of_runs (qX 6) Tryz.func10 rfl rfl rfl gz ?_
  have hres:Tryz.f10.results.toList = [.tmp 2]:=rfl
  have hrts:Tryz.f10.resultTypes.toList = [4]:=rfl
  simp only [qK,qA,eL,eI,eLL,eB,Nat.zero_add,Nat.reduceAdd,eCode,dCode]
  intro M
  refine qQ.of ?_
  refine gw5 (kk 3) i1 ?_
  exact gw8
def xI (code:List Int) (s:Nat × Int) (m:Int):List (List Int) × (Nat × Int) :=
 let f:=xY code s m
 let c:=nxtF code f.2 24
 if c.1 = 0 then
  let t:=drawF code c.2 4
  (f.1 ++ [t.1],t.2)
 else if c.1 = 1 then
  let t:=xV code c.2 3
  (f.1 ++ [t.1],t.2)
 else if c.1 = 2 then ([0,1,1] :: f.1,c.2)
 else (f.1,c.2)
structure FAOk (n:Nat) (f:List (List Int)):Prop where
 sum:qJ f ≤ n
 len:f.length ≤ n
theorem drawForF_ok {code:List Int} (hc:jA code) {s:Nat × Int} {m:Int} (hs:s.1 ≤ code.length):FOk m.toNat (xY code s m).1∧(xY code s m).2.1 ≤ code.length:=by
 have hb:=yH hc s (m + 1)
 have ha:=yY (n:=m + 1) hs
 obtain ⟨h1,h2⟩:=dforF_ok hc (nxtF code s (m + 1)).1.toNat (nxtF code s (m + 1)).1.toNat 0 (s:=(nxtF code s (m + 1)).2) (out:=[]) ⟨by simp,by simp,by simp [qJ]⟩ ha
 unfold xY
 simp only
 obtain ⟨Z,hZ⟩:∃ Z,Z = dforF code (nxtF code s (m + 1)).1.toNat (nxtF code s (m + 1)).1.toNat (nxtF code s (m + 1)).2 []:=⟨_,rfl⟩
 rw [← hZ] at h1 h2 ⊢
 refine ⟨⟨fun t ht => h1.lev t (yQ.1 ht),fun t ht => h1.can t (yQ.1 ht),?_⟩,h2⟩
 have:=xR (show (sortC cmpT Z.1).Perm Z.1 from jE _)
 have hsu:=h1.sum
 show qJ (sortC cmpT Z.1) ≤ _
 omega
theorem drawForAnyF_ok {code:List Int} (hc:jA code) {s:Nat × Int} {m:Int} (hs:s.1 ≤ code.length):FAOk (m.toNat + 13) (xI code s m).1∧(xI code s m).2.1 ≤ code.length:=by
 obtain ⟨h1,h2⟩:=drawForF_ok hc (m:=m) hs
 unfold xI
 obtain ⟨f,hf⟩:∃ f,f = xY code s m:=⟨_,rfl⟩
 rw [← hf] at h1 h2 ⊢
 simp only
 have hl:=len_sumD h1.lev
 have hsu:=h1.sum
 have h3:=yY (n:=24) h2
 split
 ·obtain ⟨g1,g2⟩:=vF hc (m:=4) h3
  have:=g1.len
  refine ⟨⟨?_,by simp;omega⟩,g2⟩
  rw [kR]
  have e:qJ [(drawF code (nxtF code f.2 24).2 4).1] = (drawF code (nxtF code f.2 24).2 4).1.length:=by simp [qJ]
  have h4:(4:Int).toNat = 4:=rfl
  omega
 ·split
  ·obtain ⟨g1,g2⟩:=drawAnyF_ok hc (m:=3) h3
   have:=g1.len
   refine ⟨⟨?_,by simp;omega⟩,g2⟩
   rw [kR]
   have e:qJ [(xV code (nxtF code f.2 24).2 3).1] = (xV code (nxtF code f.2 24).2 3).1.length:=by simp [qJ]
   have h4:(3:Int).toNat = 3:=rfl
   omega
  ·split
   ·refine ⟨⟨?_,by simp;omega⟩,h3⟩
    have e:qJ ([0,1,1] :: f.1) = 3 + qJ f.1:=by simp [qJ]
    show qJ ([0,1,1] :: f.1) ≤ _
    omega
   ·exact ⟨⟨show qJ f.1 ≤ _ by omega,show f.1.length ≤ _ by omega⟩,h3⟩
def wE (code:List Int) (s:Nat × Int) (m:Int):List Res × (Nat × Int):=([.own 1 ((xI code s m).1.map eL) false],(xI code s m).2)
theorem AEp.forget {P:Program} {f:FuncId} {ptr:Bool} {k k':Nat} {xs xs0 ys:List (List D)} {post:List (List D)} (h:AEp P f ptr k xs post (fun r x => r = [.own k' ys true]∧x = xs0)):AEp P f ptr k xs post (fun r x => r = [.own k' ys false]∧x = xs0):=by
 refine ⟨h.call,fun A w us og cap ds a1 a2 a3 a4 a5 a6 => (h.fn A w us og cap ds a1 a2 a3 a4 a5 a6).mono ?_⟩
 rintro e w' ⟨v,rs,x',ds',us',G,X,rfl,⟨rfl,rfl⟩,hb,rfl,hG1,hG2,hrel,hlen,hrow,hrd⟩
 obtain ⟨v1,us1,G1,G2,Y1,Y2,rfl,e1,e2,ho,⟨og',cap',F,dd,rfl,hrow',hk',e3,e4,hel⟩,hend⟩:=hrel
 have hend:us1 = []∧G2 = []∧Y2 = []:=hend
 obtain ⟨rfl,rfl,rfl⟩:=hend
 have hel:ownR k' w' dd ys F:=hel
 rw [List.append_nil] at e1 e2
 have e3:G1 = og'.toList ++ F:=e3
 subst e3;subst e4;subst e1;subst e2
 refine ⟨_,_,_,ds',[_],og'.toList,og'.toList,rfl,⟨rfl,rfl⟩,hb,rfl,(List.nodup_append.1 hG1).1,fun b hb' => hG2 b (List.mem_append_left _ hb'),?_,hlen,hrow,hrd⟩
 refine ⟨_,[],og'.toList,[],og'.toList,[],rfl,by simp,by simp,ho,⟨og',cap',[],dd,rfl,hrow',hk',by simp,rfl,?_⟩,rfl,rfl,rfl⟩
 show rdR k' (fun b => (A b ∨ w.heap.size ≤ b)∧b ∉ og'.toList) w' dd ys
 exact hel.rd.mono (fun b hb' _ => ⟨.inr (hG2 b (List.mem_append_right _ hb')),fun h2 => (List.nodup_append.1 hG1).2.2 b h2 b hb' rfl⟩)
theorem yP0 {code:List Int} (hc:jA code) (hl:code.length ≤ 1000000000):DrawsE Tryz.prog 63 code (drw1 (wE code)):=by
 refine drw1_of fun s m hs hm1 hm2 => ?_
 have hpin:=qB0 hc hl
 have hdw:=(p_l03Draw hc hl).ok
 have hda:=(p_l03DrawAny hc hl).ok
 have hdf:=(p_l03DrawForest hc hl).ok
 have hdt:drwG code (drw1 (vI code)) 3 [srcD code s] [[.int m]] = some ([.own 1 ((xY code s m).1.map eL) true],[srcD code (xY code s m).2]):=vK hs ⟨hm1,hm2⟩
 obtain ⟨h1,h2⟩:=drawForF_ok hc (m:=m) hs
 have hdr:=xK code (xY code s m).2 24 h2
 have hat:=yY (n:=24) h2
 unfold wE xI
 obtain ⟨⟨f,s1⟩,hp⟩:∃ p,p = xY code s m:=⟨_,rfl⟩
 rw [← hp] at h1 h2 hdr hat hdt ⊢
 simp only at h1 h2 hdr hat hdt ⊢
 obtain ⟨⟨c,s2⟩,hq⟩:∃ p,p = nxtF code s1 24:=⟨_,rfl⟩
 rw [← hq] at hdr hat ⊢
 simp only [eI] at hdr hat ⊢
 have hfl:=len_sumD h1.lev
 have hfs:=h1.sum
 have hfm:(f.map eL).length = f.length:=List.length_map _
 have q1:=jS (n:=f.length + 1) (by omega)
 have q2:=jO (n:=f.length + 1) (c:=24) (by omega) (by omega)
 by_cases c0:c = 0
 ·refine AEp.forget ?_
  subst c0
  have hd0:drwG code (drw1 (drawG code)) 3 [srcD code s2] [[.int (4:Int)]] = some ([.own 1 ((drawF code s2 4).1.map eI) true],[srcD code (drawF code s2 4).2]):=vK hat (by omega)
  obtain ⟨⟨t,s3⟩,ht⟩:∃ p,p = drawF code s2 4:=⟨_,rfl⟩
  rw [← ht] at hd0 ⊢
  simp only [if_true] at hd0 ⊢
  rw [show (f ++ [t]).map eL = f.map eL ++ [[D.sl 1 (t.map eI)]] by rw [List.map_append];rfl]
  refine AEp.of_runs (qX 32) Tryz.func63 rfl rfl rfl (fun _ => rfl) gz ?_
  have hres:Tryz.f63.results.toList = [.tmp 4]:=rfl
  have hrts:Tryz.f63.resultTypes.toList = [36]:=rfl
  simp only [List.length_cons,List.length_nil,yJ,if_true,qK,qA,eL,eI,eLL,eB,Nat.zero_add,Nat.reduceAdd]
  intro M og cap
  refine qQ.of ?_
  refine gw104 (kk 11) (Y6 hdr hdt hd0 hfm q1 q2) ?_
  exact gw93
 ·have e0:(c == 0) = false:=by simp [c0]
  by_cases c1:c = 1
  ·refine AEp.forget ?_
   subst c1
   have hd0:drwG code (drw1 (drawAnyG code)) 3 [srcD code s2] [[.int (3:Int)]] = some ([.own 1 ((xV code s2 3).1.map eI) true],[srcD code (xV code s2 3).2]):=vK hat (by omega)
   obtain ⟨⟨t,s3⟩,ht⟩:∃ p,p = xV code s2 3:=⟨_,rfl⟩
   rw [← ht] at hd0 ⊢
   rw [if_neg c0,if_pos rfl]
   simp only at hd0 ⊢
   rw [show (f ++ [t]).map eL = f.map eL ++ [[D.sl 1 (t.map eI)]] by rw [List.map_append];rfl]
   refine AEp.of_runs (qX 32) Tryz.func63 rfl rfl rfl (fun _ => rfl) gz ?_
   have hres:Tryz.f63.results.toList = [.tmp 4]:=rfl
   have hrts:Tryz.f63.resultTypes.toList = [36]:=rfl
   simp only [List.length_cons,List.length_nil,yJ,if_true,qK,qA,eL,eI,eLL,eB,Nat.zero_add,Nat.reduceAdd]
   intro M og cap
   refine qQ.of ?_
   refine gw105 (kk 11) (Y7 hdr hdt hd0 e0 hfm q1 q2) ?_
   exact gw93
  ·have e1:(c == 1) = false:=by simp [c1]
   by_cases c2:c = 2
   ·subst c2
    rw [if_neg c0,if_neg c1,if_pos rfl]
    rw [show ([0,1,1] :: f).map eL = [D.sl 1 [[D.int 0],[D.int 1],[D.int 1]]] :: f.map eL from rfl]
    have q3:=jS (n:=1 + f.length) (by omega)
    have q4:=jO (n:=1 + f.length) (c:=24) (by omega) (by omega)
    refine AEp.of_runs (qX 32) Tryz.func63 rfl rfl rfl (fun _ => rfl) gz ?_
    have hres:Tryz.f63.results.toList = [.tmp 4]:=rfl
    have hrts:Tryz.f63.resultTypes.toList = [36]:=rfl
    simp only [List.length_cons,List.length_nil,yJ,if_true,qK,qA,eL,eI,eLL,eB,Nat.zero_add,Nat.reduceAdd]
    intro M og cap
    refine qQ.of ?_
    refine gw106 (kk 11) (Y5 hdr hdt e0 e1 hfm) ?_
    refine qQ.frz 5 ?_
    ((refine gw69 (kk 11) Y0 ?_);(with_reducible refine qQ.regCut (qX 32) Tab.none 1 (s1:=?_) ?_ ?_);rotate_left 1;(focus ((with_reducible refine QW ?_);simp only [Zg,Zi,seval];with_reducible rfl));simp only [List.toList_toArray,List.drop_succ_cons,List.drop_zero])
    refine qV.frzs [27] ?_
    (refine qV.opsT (qX 32) (T:=Tab.none) (s':=?_) ?_ ?_;rotate_left 1;focus (simp only [Zg,Zi,seval,hfm,q3,q4];with_reducible rfl))
    refine gw7 (kk 11) Y0 ?_
    exact gw93
   ·have e2:(c == 2) = false:=by simp [c2]
    rw [if_neg c0,if_neg c1,if_neg c2]
    refine AEp.forget ?_
    refine AEp.of_runs (qX 32) Tryz.func63 rfl rfl rfl (fun _ => rfl) gz ?_
    have hres:Tryz.f63.results.toList = [.tmp 4]:=rfl
    have hrts:Tryz.f63.resultTypes.toList = [36]:=rfl
    simp only [List.length_cons,List.length_nil,yJ,if_true,qK,qA,eL,eI,eLL,eB,Nat.zero_add,Nat.reduceAdd]
    intro M og cap
    refine qQ.of ?_
    refine gw106 (kk 11) (Y6 hdr hdt e0 e1 e2 hfm) ?_
    exact gw93
def viaK (P:Program) (cfg:Cfg) (M:Nat→Prop) (b:Code) (fs:List Fr) (Q:Exit→St→Prop) (s1:St):Exit→St→Prop
 | .normal,s => jJ s s1
 | e,s => outK P cfg M (.seq b :: fs) Q e s
theorem qQ.via {P:Program} {cfg:Cfg} {M:Nat→Prop} {a b:Code} {fs:List Fr} {Q:Exit→St→Prop} {s:St} (s1:St) (h1:qQ P cfg M a [] (viaK P cfg M b fs Q s1) s) (h2:qQ P cfg M b fs Q s1):qQ P cfg M a (.seq b :: fs) Q s :=
 qU.monoF (Q1:=viaK P cfg M b fs Q s1) h1 fun e s' h => by
  cases e with
  | normal => exact ⟨s1,.inr h,h2⟩
  | _ => exact ⟨s',.inl rfl,h⟩
theorem viaK.on {P:Program} {cfg:Cfg} {M:Nat→Prop} {b:Code} {fs:List Fr} {Q:Exit→St→Prop} {s s1:St} (h:jJ s s1):outK P cfg M [] (viaK P cfg M b fs Q s1) .normal s:=h
def drawCF (code:List Int):List (List Int):=(xI code (src0 code) 7).1
theorem drawCF_ok {code:List Int} (hc:jA code):FAOk 20 (drawCF code):=(drawForAnyF_ok hc (s:=src0 code) (m:=7) (Nat.zero_le _)).1
theorem yR0 {code:List Int} (hc:jA code) (hl:code.length ≤ 1000000000):AFn Tryz.prog 18 [eCode code] (· = [.own 1 ((drawCF code).map eL) false]):=by
 have hfrom:=p_l01From hc hl
 have hs:(src0 code).1 ≤ code.length:=Nat.zero_le _
 have hd1:=vK (G:=wE code) hs (m:=7) (by omega)
 unfold drawCF
 have e1:wE code (src0 code) 7 = ([.own 1 ((xI code (src0 code) 7).1.map eL) false],(xI code (src0 code) 7).2):=rfl
 rw [e1] at hd1
 obtain ⟨⟨t,s1⟩,hp⟩:∃ p,p = xI code (src0 code) 7:=⟨_,rfl⟩
 rw [← hp] at hd1 ⊢
 simp only at hd1 ⊢
 simp only [eCode,dCode] at hfrom ⊢
 have hda:=(yP0 hc hl).ok
 refine AFn.of_runs (qX 6) Tryz.func18 rfl rfl rfl gz ?_
 have hres:Tryz.f18.results.toList = [.tmp 2]:=rfl
 have hrts:Tryz.f18.resultTypes.toList = [36]:=rfl
 simp only [qK,qA,eL,eI,eLL,eB,Nat.zero_add,Nat.reduceAdd,eCode,dCode]
 intro M
 refine qQ.of ?_
 ((refine gw69 (kk 3) Y0 ?_);with_reducible (apply QS (qX 6) Tab.none;refine QW ?_;simp only [Zg,Zi,seval];rfl);(refine gw69 (kk 3) Y0 ?_))
 ((refine gw69 (kk 3) Y0 ?_);(with_reducible refine qQ.regCut (qX 6) Tab.none 1 (s1:=?_) ?_ ?_);rotate_left 1;(focus ((with_reducible refine QW ?_);simp only [Zg,Zi,seval];with_reducible rfl));simp only [List.toList_toArray,List.drop_succ_cons,List.drop_zero])
 refine qV.callR (qX 6) rfl (d:=4) rfl (by decide) rfl rfl rfl rfl hfrom rfl ?_
 intro b
 (refine qV.opsT (qX 6) (T:=Tab.none.pin 63 (drwE code (drw1 (wE code))) hda) (s':=?_) ?_ ?_;rotate_left 1;focus (simp only [Zg,Zi,seval,hd1,drwE,srcD_len];with_reducible rfl))
 refine gw7 (kk 3) Y0 ?_
 exact gw8
theorem codLL_one (t:List Int):codLL.d [.sl 1 [[.sl 1 (t.map eI)]]] = some [t]:=vY [t]
theorem th_midL {c:Cu} (h:ThZ c) {i:Nat} {l:Kn} (hl:KnOk (256 * i) l) {k:Nat} (hk:k ≤ (cfOf c.1.1).1.length):KnOk (256 * i + k) (addN l (ctbL c ((cfOf c.1.1).1.take k))):=by
 have h1:=addN_ok (ps:=ctbL c ((cfOf c.1.1).1.take k)) hl fun p hp => by
  obtain ⟨z,hz,rfl⟩:=List.mem_map.1 hp
  exact ctbL_bd h _ (List.mem_map.2 ⟨z,List.mem_of_mem_take hz,rfl⟩)
 have e:(ctbL c ((cfOf c.1.1).1.take k)).length = k:=by unfold ctbL;rw [List.length_map,List.length_take];omega
 rw [e] at h1
 exact h1
theorem th_midR {c:Cu} (h:ThZ c) {i:Nat} {l:Kn} (hl:KnOk (256 * i) l) {k:Nat} (hk:k ≤ (trk c.1.2).length):KnOk (256 * i + k) (addN l (ctbR c ((trk c.1.2).take k))):=by
 have h1:=addN_ok (ps:=ctbR c ((trk c.1.2).take k)) hl fun p hp => by
  obtain ⟨z,hz,rfl⟩:=List.mem_map.1 hp
  exact ctbR_bd h _ (List.mem_map.2 ⟨z,List.mem_of_mem_take hz,rfl⟩)
 have e:(ctbR c ((trk c.1.2).take k)).length = k:=by unfold ctbR;rw [List.length_map,List.length_take];omega
 rw [e] at h1
 exact h1
theorem ctb_succL {c:Cu} {S:List (Spl × Int)} {k:Nat} (h:k < S.length) (l:Kn):addN l (ctbL c (S.take (k + 1))) = keepN (addN l (ctbL c (S.take k))) (key3 S[k].1.1 S[k].1.2 [c.1.2]) (c.2 * S[k].2):=by
 have e:ctbL c (S.take (k + 1)) = ctbL c (S.take k) ++ [(key3 S[k].1.1 S[k].1.2 [c.1.2],c.2 * S[k].2)]:=by
  unfold ctbL
  rw [List.take_succ_eq_append_getElem h,List.map_append];rfl
 rw [e,addN_snoc]
theorem ctb_succR {c:Cu} {S:List Cu} {k:Nat} (h:k < S.length) (l:Kn):addN l (ctbR c (S.take (k + 1))) = keepN (addN l (ctbR c (S.take k))) (key3 c.1.1 S[k].1.1 [S[k].1.2]) (c.2 * S[k].2):=by
 have e:ctbR c (S.take (k + 1)) = ctbR c (S.take k) ++ [(key3 c.1.1 S[k].1.1 [S[k].1.2],c.2 * S[k].2)]:=by
  unfold ctbR
  rw [List.take_succ_eq_append_getElem h,List.map_append];rfl
 rw [e,addN_snoc]
noncomputable def TTh:Tab Tryz.prog:=by
 classical
 exact Tab.none.add 16 (tab1 codLL fun f => if ShF f then some [.val (.raw (.string (bb (txF f))))] else none) (kF fun f rs h => by split at h;cases h;rename_i hs;exact a_text9 f hs;cases h)
noncomputable def TNt:Tab Tryz.prog:=Tab.none.add 20 (tab1 codLL fun f => if f.length ≤ 1000∧qJ f ≤ 1000 then some [.val (.int (qJ f:Nat))] else none) (kF fun f rs h => by split at h;cases h;rename_i hs;exact a_nodes9t f (by have:=hs.1;omega) (by have:=hs.2;omega);cases h)
theorem a_FnThreefold (code:List Int) (hc:jA code):AFn Tryz.prog 3 [eCode code] (· = [.val (.bool true)]):=by
 have hbg:=a_big code
 by_cases hbig:4096 < code.length
 ·rw [decide_eq_true hbig] at hbg
  simp only [eCode,dCode] at hbg
  refine AFn.of_runs (qX 243) Tryz.func3 rfl rfl rfl gz ?_
  have hres:Tryz.f3.results.toList = [.tmp 2]:=rfl
  have hrts:Tryz.f3.resultTypes.toList = [4]:=rfl
  simp only [qK,qA,eL,eI,eLL,eB,Nat.zero_add,Nat.reduceAdd,eCode,dCode]
  intro M
  refine qQ.of ?_
  refine gw107 (kk 26) ?_
  exact gw8
 rw [decide_eq_false hbig] at hbg
 have hl:code.length ≤ 1000000000:=by omega
 have hroll:=p_roll hc hl 1051 (by decide)
 have htr:=(p_tree9 hc hl).ok
 obtain ⟨s0,hs0⟩:∃ s0,s0 = dice0 1051 code:=⟨_,rfl⟩
 have hs0l:s0.1 ≤ code.length:=by rw [hs0];exact Nat.zero_le _
 rw [← hs0] at hroll
 have hd1:=vK (G:=drawG code) hs0l (m:=6) (by omega)
 obtain ⟨htok,_⟩:=vF hc hs0l (m:=6)
 have htl:=drawF_len hc hs0l (m:=6) (by decide)
 have e1:drawG code s0 6 = ([.own 1 ((drawF code s0 6).1.map eI) true],(drawF code s0 6).2):=rfl
 rw [e1] at hd1
 obtain ⟨⟨t,s1⟩,hp⟩:∃ p,p = drawF code s0 6:=⟨_,rfl⟩
 rw [← hp] at hd1 htok htl
 simp only at hd1 htok htl
 have hlev:=htok.lev
 have ht8:t.length ≤ 8:=Nat.le_trans htl (by decide)
 have hco:=AFn.valT2 (yX0 t)
 have eco:coOf t = (cutsL t,0):=by unfold coOf;rw [if_pos (lev8_mk hlev ht8)]
 rw [eco] at hco
 have hsame:=th_same hlev ht8
 have hz:=th_all hlev ht8
 have hL2:=cuts_two hlev
 have hLl:=(cutsL_th hlev ht8).1
 have hstep:=th_step hz
 obtain ⟨L,hL⟩:∃ L,L = cutsL t:=⟨_,rfl⟩
 rw [← hL] at hco hsame hz hL2 hLl hstep
 have hLm:(L.map eK).length = L.length:=List.length_map _
 have b0:((0:Int) != 0) = false:=by decide
 have l2:((L.length:Int) < 2) = False:=eq_false (by omega)
 obtain ⟨C,hC⟩:∃ C,C = code.map eU:=⟨_,rfl⟩
 simp only [eCode,dCode] at hbg hroll
 rw [← hC] at hbg hroll
 simp only [eL] at hco
 refine AFn.of_runs (qX 243) Tryz.func3 rfl rfl rfl gz ?_
 have hres:Tryz.f3.results.toList = [.tmp 2]:=rfl
 have hrts:Tryz.f3.resultTypes.toList = [4]:=rfl
 simp only [qK,qA,eL,eI,eLL,eB,Nat.zero_add,Nat.reduceAdd,eCode,dCode]
 intro M
 refine qQ.of ?_
 rw [← hC]
 refine gw107 (kk 26) ?_
 ((refine gw69 (kk 26) Y0 ?_);(with_reducible refine qQ.regCut (qX 243) Tab.none 1 (s1:=?_) ?_ ?_);rotate_left 1;(focus ((with_reducible refine QW ?_);simp only [Zg,Zi,seval];with_reducible rfl));simp only [List.toList_toArray,List.drop_succ_cons,List.drop_zero])
 refine qV.callR (qX 243) rfl (d:=29) rfl (by decide) rfl rfl rfl rfl hroll rfl ?_
 intro b
 (refine qV.opsT (qX 243) (T:=Tab.none.pin 11 (drwE code (drw1 (drawG code))) htr) (s':=?_) ?_ ?_;rotate_left 1;focus (simp only [Zg,Zi,seval,hd1,drwE,srcD_len];with_reducible rfl))
 refine gw108 (kk 26) (Y3 b0 l2 hLm) ?_
 refine qQ.loop (β:=Nat) (γ:=Unit) (fun i => ⟨[(0,.c (.val (.sl 1 C))),(4,.c (.val (.sl 3 (L.map eK)))),(6,.c (.own 6 (addN [] (conL (L.take i))).length)),(7,.c (.own 7 (addN [] (conR (L.take i))).length)),(8,.c (.val (.int i)))],[(6,.row 2 ((addN [] (conL (L.take i))).map eKn) false),(7,.row 2 ((addN [] (conR (L.take i))).map eKn) false)]⟩) (fun i => i ≤ L.length) (fun i => L.length - i)
  (fun _ => ⟨[(0,.c (.val (.sl 1 C))),(6,.c (.own 6 (addN [] (conL L)).length)),(7,.c (.own 7 (addN [] (conR L)).length))],[(6,.row 2 ((addN [] (conL L)).map eKn) false),(7,.row 2 ((addN [] (conR L)).map eKn) false)]⟩) (fun _ => True) 0 (Nat.zero_le _) ?_ ?_ ?_
 ·exact gw109 (Yp (show addN [] (conL (L.take 0)) = [] from rfl) (show addN [] (conR (L.take 0)) = [] from rfl))
 ·intro i hi
  have hi:i ≤ L.length:=hi
  have hw:=qI (n:=i) (by omega)
  by_cases h:i < L.length
  rotate_left
  ·have i1:((i:Int) < (L.length:Int)) = False:=eq_false (by omega)
   obtain rfl:i = L.length:=by omega
   rw [List.take_length]
   refine gw28 (kk 26) (Yp i1 hLm) ?_
   refine qW.out () trivial ?_
   exact gw110
  have i1:((i:Int) < (L.length:Int)) = True:=eq_true (by omega)
  have i2:((0:Int) ≤ (i:Int)) = True:=eq_true (by omega)
  have hZ:=hz L[i] (List.getElem_mem _)
  obtain ⟨hkl,hkr⟩:=hstep i hi
  have hnl:=con_succL h
  have hnr:=con_succR h
  obtain ⟨c,hcd⟩:∃ c,c = L[i]:=⟨_,rfl⟩
  rw [← hcd] at hZ hnl hnr
  have hg:(L.map eK)[i]? = some [.sl 1 (c.1.1.map eL),.sl 1 (c.1.2.map eI),.int c.2]:=by rw [qP h,hcd];rfl
  have hcf:=AFn.valT2 (jF0 c.1.1 (by have:=hZ.cs;omega) (by have:=hZ.cl;omega))
  rw [hZ.cf] at hcf
  obtain ⟨l,hlq⟩:∃ l,l = addN [] (conL (L.take i)):=⟨_,rfl⟩
  obtain ⟨r,hrq⟩:∃ r,r = addN [] (conR (L.take i)):=⟨_,rfl⟩
  have hnl:addN [] (conL (L.take (i + 1))) = addN l (ctbL c (cfOf c.1.1).1):=by rw [hnl,wZ,hlq]
  have hnr:addN [] (conR (L.take (i + 1))) = addN r (ctbR c (trk c.1.2)):=by rw [hnr,wZ,hrq]
  rw [← hlq] at hkl ⊢
  rw [← hrq] at hkr ⊢
  have hml:=fun k hk => th_midL hZ hkl (k:=k) hk
  have hmr:=fun k hk => th_midR hZ hkr (k:=k) hk
  have hln:=hZ.ln
  have hlt:=hZ.lt
  have haL:=hZ.aL
  have haR:=hZ.aR
  have shT:=eq_true hZ.shT
  have shC:=eq_true hZ.shC
  have xT:=hZ.shT.len
  have xC:=hZ.shC.len
  obtain ⟨S,hS⟩:∃ S,S = (cfOf c.1.1).1:=⟨_,rfl⟩
  obtain ⟨R,hR⟩:∃ R,R = trk c.1.2:=⟨_,rfl⟩
  rw [← hS] at hcf hnl hml hln haL
  rw [← hR] at hnr hmr hlt haR
  have hSm:(S.map eSs).length = S.length:=List.length_map _
  have hRm:(R.map eK).length = R.length:=List.length_map _
  have htm:(c.1.2.map eI).length = c.1.2.length:=List.length_map _
  simp only [eLL] at hcf
  refine gw111 (kk 26) (Y5 i1 i2 hg hLm htm) ?_
  refine qQ.via ⟨[(0,.c (.val (.sl 1 C))),(4,.c (.val (.sl 3 (L.map eK)))),(6,.c (.own 6 l.length)),(7,.c (.own 7 r.length)),(8,.c (.val (.int i))),(9,.c (.val (.sl 3 (S.map eSs)))),(10,.c (.val (.int 0))),(11,.c (.val (.sl 3 (R.map eK)))),(12,.c (.val (.int 0)))],[(6,.row 2 (l.map eKn) false),(7,.row 2 (r.map eKn) false)]⟩ ?_ ?_
  ·rcases hZ.tr with hc0|⟨hc1,hc2⟩
   ·have hx:¬ ((c.1.2.length:Int) > 0):=by rw [hc0];simp
    have hR0:R.map eK = [[.sl 1 [],.sl 1 [],.int 1]]:=by rw [hR,hc0];rfl
    rw [hR0]
    rw [decide_eq_false hx]
    refine qQ.frz 11 ?_
    refine qQ.fits (s0:=⟨[(0,.c (.val (.sl 1 C))),(4,.c (.val (.sl 3 (L.map eK)))),(6,.c (.own 6 l.length)),(7,.c (.own 7 r.length)),(8,.c (.val (.int i))),(9,.c (.val (.sl 3 (S.map eSs)))),(10,.c (.val (.int 0))),(11,.c (.val (.sl 3 [[.sl 1 [],.sl 1 [],.int 1]]))),(12,.c (.val (.int 0)))],[(6,.row 2 (l.map eKn) false),(7,.row 2 (r.map eKn) false)]⟩) ?_ ?_
    ·exact gw112
    refine gw28 (kk 26) Y0 ?_
    refine viaK.on ?_
    exact gw110
   ·have hx:((c.1.2.length:Int) > 0):=by have:=List.length_pos_iff.2 hc2;omega
    have hRe:R = cutsL c.1.2:=by rw [hR];unfold trk;rw [if_neg hc2]
    have hco2:=AFn.valT2 (yX0 c.1.2)
    rw [hc1,← hRe] at hco2
    simp only [eL] at hco2
    rw [decide_eq_true hx]
    refine gw113 (kk 26) (Y4 i1 i2 hg hLm) ?_
    refine viaK.on ?_
    exact gw110
  refine gw28 (kk 26) b0 ?_
  refine qQ.loop (β:=Nat) (γ:=Unit) (fun k => ⟨[(0,.c (.val (.sl 1 C))),(4,.c (.val (.sl 3 (L.map eK)))),(6,.c (.own 6 (addN l (ctbL c (S.take k))).length)),(7,.c (.own 7 r.length)),(8,.c (.val (.int i))),(9,.c (.val (.sl 3 (S.map eSs)))),(11,.c (.val (.sl 3 (R.map eK)))),(13,.c (.val (.int k)))],[(6,.row 2 ((addN l (ctbL c (S.take k))).map eKn) false),(7,.row 2 (r.map eKn) false)]⟩) (fun k => k ≤ S.length) (fun k => S.length - k)
   (fun _ => ⟨[(0,.c (.val (.sl 1 C))),(4,.c (.val (.sl 3 (L.map eK)))),(6,.c (.own 6 (addN l (ctbL c S)).length)),(7,.c (.own 7 r.length)),(8,.c (.val (.int i))),(11,.c (.val (.sl 3 (R.map eK))))],[(6,.row 2 ((addN l (ctbL c S)).map eKn) false),(7,.row 2 (r.map eKn) false)]⟩) (fun _ => True) 0 (Nat.zero_le _) ?_ ?_ ?_
  ·exact gw114 (show addN l (ctbL c (S.take 0)) = l from rfl)
  ·intro k hk
   have hk:k ≤ S.length:=hk
   have hwk:=qI (n:=k) (by omega)
   by_cases h':k < S.length
   rotate_left
   ·have j1:((k:Int) < (S.length:Int)) = False:=eq_false (by omega)
    obtain rfl:k = S.length:=by omega
    rw [List.take_length]
    refine gw28 (kk 26) (Yp j1 hSm) ?_
    refine qW.out () trivial ?_
    exact gw110
   have j1:((k:Int) < (S.length:Int)) = True:=eq_true (by omega)
   have j2:((0:Int) ≤ (k:Int)) = True:=eq_true (by omega)
   have hkn:=hml k hk
   have hst:=ctb_succL (c:=c) h' l
   obtain ⟨a1,a2,a3,a4⟩:=haL S[k] (List.getElem_mem _)
   obtain ⟨z,hzd⟩:∃ z,z = S[k]:=⟨_,rfl⟩
   rw [← hzd] at hst a1 a2 a3 a4
   have hgz:(S.map eSs)[k]? = some [.sl 1 (z.1.1.map eL),.sl 1 (z.1.2.map eL),.int z.2]:=by rw [qP h',hzd];rfl
   have x1:=a1.len
   have x2:=a2.len
   have sh1:=eq_true a1
   have sh2:=eq_true a2
   have wm:w64 (c.2 * z.2) = c.2 * z.2:=qR (by omega)
   unfold key3 at hst
   obtain ⟨m,hm⟩:∃ m,m = addN l (ctbL c (S.take k)):=⟨_,rfl⟩
   rw [← hm] at hkn hst ⊢
   obtain ⟨X,hX⟩:∃ X,X = txF z.1.1:=⟨_,rfl⟩
   obtain ⟨Y,hY⟩:∃ Y,Y = txF z.1.2:=⟨_,rfl⟩
   obtain ⟨Z,hZZ⟩:∃ Z,Z = txF [c.1.2]:=⟨_,rfl⟩
   rw [← hX,← hY,← hZZ] at hst
   rw [← hX] at x1
   rw [← hY] at x2
   rw [← hZZ] at xT
   have e1:=bb_le (p:=X) (q:=[124]) (by simp;omega)
   have e2:=bb_le (p:=X ++ [124]) (q:=Y) (by simp;omega)
   have e3:=bb_le (p:=X ++ [124] ++ Y) (q:=[124]) (by simp;omega)
   have e4:=bb_le (p:=X ++ [124] ++ Y ++ [124]) (q:=Z) (by simp;omega)
   have hkp:=a_keep9 m (X ++ [124] ++ Y ++ [124] ++ Z) (c.2 * z.2) hkn (by omega) ⟨a3,a4⟩
   simp only [eI] at hkp
   refine gw28 (kk 26) (Yp j1 hSm) ?_
   ((with_reducible refine qQ.wFz (qX 243) TTh qE [111] (tr:=?_) (s1:=?_) (rest:=?_) ?_ ?_ ?_);rotate_left 3;(focus ((with_reducible refine QW ?_);simp only [Zg,Zd,Zi,seval,drunF,kT,xS,valD,vJ,List.contains_cons,List.contains_nil,TTh,TTh,vY,codLL_one,sh1,sh2,shT,← hX,← hY,← hZZ,bb_bar,bb_app,e1,e2,e3,e4,wm,i1,i2,j1,j2,hg,hgz,hLm,hSm,Int.toNat_natCast];with_reducible rfl));focus ((with_reducible refine QK ?_);simp only [Zk];kernel_rfl))
   (refine qV.opsT (qX 243) (T:=Tab.none.own' 15 0 hkp) (s':=?_) ?_ ?_;rotate_left 1;focus (simp only [Zg,Zi,seval,Tab.own',atOwn_eq];with_reducible rfl))
   refine gw28 (kk 26) hwk ?_
   refine qW.on (k + 1) ⟨h',by omega⟩ ?_
   rw [hst]
   exact gw110
  intro _ _
  refine gw28 (kk 26) Y0 ?_
  rw [← hnl]
  obtain ⟨l',hl'⟩:∃ l',l' = addN [] (conL (L.take (i + 1))):=⟨_,rfl⟩
  rw [← hl']
  refine qQ.loop (β:=Nat) (γ:=Unit) (fun k => ⟨[(0,.c (.val (.sl 1 C))),(4,.c (.val (.sl 3 (L.map eK)))),(6,.c (.own 6 l'.length)),(7,.c (.own 7 (addN r (ctbR c (R.take k))).length)),(8,.c (.val (.int i))),(11,.c (.val (.sl 3 (R.map eK)))),(14,.c (.val (.int k)))],[(6,.row 2 (l'.map eKn) false),(7,.row 2 ((addN r (ctbR c (R.take k))).map eKn) false)]⟩) (fun k => k ≤ R.length) (fun k => R.length - k)
   (fun _ => ⟨[(0,.c (.val (.sl 1 C))),(4,.c (.val (.sl 3 (L.map eK)))),(6,.c (.own 6 l'.length)),(7,.c (.own 7 (addN r (ctbR c R)).length)),(8,.c (.val (.int i)))],[(6,.row 2 (l'.map eKn) false),(7,.row 2 ((addN r (ctbR c R)).map eKn) false)]⟩) (fun _ => True) 0 (Nat.zero_le _) ?_ ?_ ?_
  ·exact gw114 (show addN r (ctbR c (R.take 0)) = r from rfl)
  ·intro k hk
   have hk:k ≤ R.length:=hk
   have hwk:=qI (n:=k) (by omega)
   by_cases h':k < R.length
   rotate_left
   ·have j1:((k:Int) < (R.length:Int)) = False:=eq_false (by omega)
    obtain rfl:k = R.length:=by omega
    rw [List.take_length]
    refine gw28 (kk 26) (Yp j1 hRm) ?_
    refine qW.out () trivial ?_
    exact gw110
   have j1:((k:Int) < (R.length:Int)) = True:=eq_true (by omega)
   have j2:((0:Int) ≤ (k:Int)) = True:=eq_true (by omega)
   have hkn:=hmr k hk
   have hst:=ctb_succR (c:=c) h' r
   obtain ⟨a1,a2,a3,a4⟩:=haR R[k] (List.getElem_mem _)
   obtain ⟨d,hdd⟩:∃ d,d = R[k]:=⟨_,rfl⟩
   rw [← hdd] at hst a1 a2 a3 a4
   have hgd:(R.map eK)[k]? = some [.sl 1 (d.1.1.map eL),.sl 1 (d.1.2.map eI),.int d.2]:=by rw [qP h',hdd];rfl
   have x1:=a1.len
   have x2:=a2.len
   have sh1:=eq_true a1
   have sh2:=eq_true a2
   have wm:w64 (c.2 * d.2) = c.2 * d.2:=qR (by omega)
   unfold key3 at hst
   obtain ⟨m,hm⟩:∃ m,m = addN r (ctbR c (R.take k)):=⟨_,rfl⟩
   rw [← hm] at hkn hst ⊢
   obtain ⟨X,hX⟩:∃ X,X = txF c.1.1:=⟨_,rfl⟩
   obtain ⟨Y,hY⟩:∃ Y,Y = txF d.1.1:=⟨_,rfl⟩
   obtain ⟨Z,hZZ⟩:∃ Z,Z = txF [d.1.2]:=⟨_,rfl⟩
   rw [← hX,← hY,← hZZ] at hst
   rw [← hX] at xC
   rw [← hY] at x1
   rw [← hZZ] at x2
   have e1:=bb_le (p:=X) (q:=[124]) (by simp;omega)
   have e2:=bb_le (p:=X ++ [124]) (q:=Y) (by simp;omega)
   have e3:=bb_le (p:=X ++ [124] ++ Y) (q:=[124]) (by simp;omega)
   have e4:=bb_le (p:=X ++ [124] ++ Y ++ [124]) (q:=Z) (by simp;omega)
   have hkp:=a_keep9 m (X ++ [124] ++ Y ++ [124] ++ Z) (c.2 * d.2) hkn (by omega) ⟨a3,a4⟩
   simp only [eI] at hkp
   refine gw28 (kk 26) (Yp j1 hRm) ?_
   ((with_reducible refine qQ.wFz (qX 243) TTh qE [153] (tr:=?_) (s1:=?_) (rest:=?_) ?_ ?_ ?_);rotate_left 3;(focus ((with_reducible refine QW ?_);simp only [Zg,Zd,Zi,seval,drunF,kT,xS,valD,vJ,List.contains_cons,List.contains_nil,TTh,TTh,vY,codLL_one,sh1,sh2,shC,← hX,← hY,← hZZ,bb_bar,bb_app,e1,e2,e3,e4,wm,i1,i2,j1,j2,hg,hgd,hLm,hRm,Int.toNat_natCast];with_reducible rfl));focus ((with_reducible refine QK ?_);simp only [Zk];kernel_rfl))
   (refine qV.opsT (qX 243) (T:=Tab.none.own' 15 0 hkp) (s':=?_) ?_ ?_;rotate_left 1;focus (simp only [Zg,Zi,seval,Tab.own',atOwn_eq];with_reducible rfl))
   refine gw28 (kk 26) hwk ?_
   refine qW.on (k + 1) ⟨h',by omega⟩ ?_
   rw [hst]
   exact gw110
  intro _ _
  rw [← hnr]
  refine gw28 (kk 26) hw ?_
  refine qW.on (i + 1) ⟨h,by omega⟩ ?_
  rw [← hl']
  exact gw110
 intro _ _
 obtain ⟨hsl,hsm⟩:=hsame
 have hkl:=(hstep L.length (Nat.le_refl _)).kl
 rw [List.take_length] at hkl
 have heq:=a_equal9 (addN [] (conL L)) (addN [] (conR L)) hsl hsm (by have:=hkl.len;omega)
 obtain ⟨l,hlq⟩:∃ l,l = addN [] (conL L):=⟨_,rfl⟩
 obtain ⟨r,hrq⟩:∃ r,r = addN [] (conR L):=⟨_,rfl⟩
 rw [← hlq,← hrq] at heq ⊢
 have hdf:=AFn.val1 (yR0 hc hl)
 have hfk:=drawCF_ok hc
 obtain ⟨f,hf⟩:∃ f,f = drawCF code:=⟨_,rfl⟩
 rw [← hf] at hdf hfk
 have hf1:=hfk.sum
 have hf2:=hfk.len
 have hc1:=AFn.valT2 (jF0 f (by omega) (by omega))
 obtain ⟨fl,hc2⟩:=yN0 f (by omega) (by omega)
 have hc2:=AFn.valB2 hc2
 simp only [eCode,dCode] at hdf
 rw [← hC] at hdf
 simp only [eLL] at hc1 hc2
 have b1:((1:Int) != 0) = true:=by decide
 have b11:((1:Int) != 1) = false:=by decide
 have b00:((0:Int) == 0) = true:=by decide
 by_cases hF:forB f = true
 rotate_left
 ·have ec:cfOf f = ([],1):=by unfold cfOf;rw [if_neg hF]
  rw [ec] at hc1 hc2
  refine gw115 (kk 26) (Y3 b1 b11 b00) ?_
  exact gw8
 have TF:=th_for hF
 have htot:=totZ_all hF
 have ec2:(cfOf f).2 = 0:=by unfold cfOf;rw [if_pos hF]
 rw [ec2] at hc1 hc2
 have tl:=TF.ln
 have tz:=TF.z
 have tzl:=TF.zl
 have tcc:=TF.cc
 have tpc:=TF.pc
 obtain ⟨ts1,ts2⟩:=TF.sl
 have tlv:=TF.lv
 obtain ⟨S,hS⟩:∃ S,S = (cfOf f).1:=⟨_,rfl⟩
 rw [← hS] at hc1 hc2 htot tl tz tzl
 have htb:=totZ_bd fun z hz => (tz z hz).1
 have hSm:(S.map eSs).length = S.length:=List.length_map _
 have hfm:(f.map eL).length = f.length:=List.length_map _
 have n3:=eq_true (show f.length ≤ 1000∧qJ f ≤ 1000 from ⟨by omega,by omega⟩)
 refine gw116 (kk 26) b0 ?_
 refine qQ.loop (β:=Nat) (γ:=Unit) (fun k => ⟨[(15,.c (.val (.sl 1 (f.map eL)))),(16,.c (.val (.sl 3 (S.map eSs)))),(20,.c (.val (.int (totZ S k)))),(21,.c (.val (.int 1))),(22,.c (.val (.int k)))],[]⟩) (fun k => k ≤ S.length) (fun k => S.length - k)
  (fun _ => ⟨[(15,.c (.val (.sl 1 (f.map eL)))),(20,.c (.val (.int (pcF f:Nat)))),(21,.c (.val (.int 1)))],[]⟩) (fun _ => True) 0 (Nat.zero_le _) ?_ ?_ ?_
 ·exact gw87 (show totZ S 0 = 0 from rfl)
 ·intro k hk
  have hk:k ≤ S.length:=hk
  have hwk:=qI (n:=k) (by omega)
  by_cases h':k < S.length
  rotate_left
  ·have j1:((k:Int) < (S.length:Int)) = False:=eq_false (by omega)
   obtain rfl:k = S.length:=by omega
   rw [htot]
   refine gw28 (kk 26) (Yp j1 hSm) ?_
   refine qW.out () trivial ?_
   exact gw6
  have j1:((k:Int) < (S.length:Int)) = True:=eq_true (by omega)
  have j2:((0:Int) ≤ (k:Int)) = True:=eq_true (by omega)
  have hst:=totZ_succ h'
  have hb:=htb k hk
  obtain ⟨hz1,hz2⟩:=tz S[k] (List.getElem_mem _)
  obtain ⟨hz3,hz4⟩:=tzl S[k] (List.getElem_mem _)
  obtain ⟨z,hzd⟩:∃ z,z = S[k]:=⟨_,rfl⟩
  rw [← hzd] at hst hz1 hz2 hz3 hz4
  have hgz:(S.map eSs)[k]? = some [.sl 1 (z.1.1.map eL),.sl 1 (z.1.2.map eL),.int z.2]:=by rw [qP h',hzd];rfl
  have n1:=eq_true (show z.1.1.length ≤ 1000∧qJ z.1.1 ≤ 1000 from ⟨by omega,by omega⟩)
  have n2:=eq_true (show z.1.2.length ≤ 1000∧qJ z.1.2 ≤ 1000 from ⟨by omega,by omega⟩)
  have w1:w64 (totZ S k + z.2) = totZ S (k + 1):=by rw [hst,qR (by omega)]
  have w2:w64 (((qJ z.1.1:Nat):Int) + ((qJ z.1.2:Nat):Int)) = ((qJ f:Nat):Int):=by rw [qR (by omega)];omega
  have bff:(((qJ f:Nat):Int) != ((qJ f:Nat):Int)) = false:=by simp
  refine gw117 (kk 26) (Y11 n1 n2 n3 w1 w2 bff j1 j2 hgz hSm hwk) ?_
  refine qW.on (k + 1) ⟨h',by omega⟩ ?_
  exact gw6
 intro _ _
 refine gw28 (kk 26) Y0 ?_
 refine qQ.loop (β:=Nat) (γ:=Unit) (fun k => ⟨[(15,.c (.val (.sl 1 (f.map eL)))),(20,.c (.val (.int (pcF f:Nat)))),(21,.c (.val (.int (pcF (f.take k):Nat)))),(23,.c (.val (.int k)))],[]⟩) (fun k => k ≤ f.length) (fun k => f.length - k)
  (fun _ => ⟨[(20,.c (.val (.int (pcF f:Nat)))),(21,.c (.val (.int (pcF f:Nat))))],[]⟩) (fun _ => True) 0 (Nat.zero_le _) ?_ ?_ ?_
 ·exact gw89 (show pcF [] = 1 from rfl)
 ·intro k hk
  have hk:k ≤ f.length:=hk
  have hwk:=qI (n:=k) (by omega)
  by_cases h':k < f.length
  rotate_left
  ·have j1:((k:Int) < (f.length:Int)) = False:=eq_false (by omega)
   obtain rfl:k = f.length:=by omega
   rw [List.take_length]
   refine gw28 (kk 26) (Yp j1 hfm) ?_
   refine qW.out () trivial ?_
   exact gw6
  have j1:((k:Int) < (f.length:Int)) = True:=eq_true (by omega)
  have j2:((0:Int) ≤ (k:Int)) = True:=eq_true (by omega)
  have hst:=pcF_succ h'
  have hle:=pcF_take tlv (k + 1)
  have hccv:=tcc f[k] (List.getElem_mem _)
  have hcn:=a_impl_CountCuts f[k]
  rw [hccv] at hcn
  obtain ⟨u,hu⟩:∃ u,u = f[k]:=⟨_,rfl⟩
  rw [← hu] at hst hcn
  have hgu:(f.map eL)[k]? = some [.sl 1 (u.map eI)]:=by rw [qP h',hu];rfl
  have w1:w64 (((pcF (f.take k):Nat):Int) * (((split u).length:Nat):Int)) = ((pcF (f.take (k + 1)):Nat):Int):=by
   have e:((pcF (f.take k):Nat):Int) * (((split u).length:Nat):Int) = ((pcF (f.take (k + 1)):Nat):Int):=by rw [hst,Int.natCast_mul]
   rw [e,qR (by omega)]
  simp only [eL] at hcn
  refine gw118 (kk 26) (Y7 j1 j2 hgu hfm b0 w1 hwk) ?_
  refine qW.on (k + 1) ⟨h',by omega⟩ ?_
  exact gw6
 intro _ _
 refine gw28 (kk 26) Y0 ?_
 exact gw8
theorem walk_FnThreefold (v0:Value) (x0:List Int) (w:World) (h0:Rd RBytes w [v0] x0):Calls Tryz.prog 3 #[v0] w (RetV w (.bool true)):=law_code (fun code hc => a_FnThreefold code hc) v0 x0 w h0
end Go.Proofs.YtedgfkpfhonlpaaGreat
