/- Lemmas (10). -/
import Derived.Test.YtedgfkpfhonlpaaGreatZC0
import Derived.Test.YtedgfkpfhonlpaaGreatZC1
import Derived.Test.YtedgfkpfhonlpaaGreatZC4
import Derived.Test.YtedgfkpfhonlpaaGreatZC7
import Derived.Test.YtedgfkpfhonlpaaGreatZC8
import Derived.Test.YtedgfkpfhonlpaaGreatZC9
set_option maxHeartbeats 16000000
set_option maxRecDepth 100000
set_option linter.unusedSimpArgs false
set_option linter.unusedVariables false
namespace Go.Proofs.YtedgfkpfhonlpaaGreat
open Go.RowKit
def dforF (code:List Int):Nat→Nat→(Nat × Int)→List (List Int)→List (List Int) × (Nat × Int)
 | 0,_,s,out => (out,s)
 | f + 1,left,s,out =>
  if left = 0 then (out,s) else
  let p:=drawF code s left
  if out ≠ []∧(out.getLastD []).length ≤ left then
   let c:=nxtF code p.2 3
   let t:=if c.1 = 0 then out.getLastD [] else canon p.1
   dforF code f (left - t.length) c.2 (out ++ [t])
  else dforF code f (left - (canon p.1).length) p.2 (out ++ [canon p.1])
def yT (code:List Int) (s:Nat × Int) (m:Int):List (List Int) × (Nat × Int) :=
 let n:=nxtF code s (m + 1)
 let r:=dforF code n.1.toNat n.1.toNat n.2 []
 (forest r.1,r.2)
structure FOk (n:Nat) (f:List (List Int)):Prop where
 lev:∀ t ∈ f,qK t
 can:∀ t ∈ f,canon t = t
 sum:qX f ≤ n
theorem qK.posL {t:List Int} (h:qK t):0 < t.length:=h.pos
theorem FOk.snoc {n k:Nat} {f:List (List Int)} {t:List Int} (h:FOk n f) (hl:qK t) (hc:canon t = t) (hk:t.length ≤ k):FOk (n + k) (f ++ [t]):=by
 refine ⟨fun x hx => ?_,fun x hx => ?_,?_⟩
 ·rcases List.mem_append.1 hx with hx|hx
  ·exact h.lev x hx
  ·rw [List.mem_singleton] at hx;subst hx;exact hl
 ·rcases List.mem_append.1 hx with hx|hx
  ·exact h.can x hx
  ·rw [List.mem_singleton] at hx;subst hx;exact hc
 ·have:=h.sum
  rw [vV]
  have:qX [t] = t.length:=by simp [qX]
  omega
theorem getLastL_mem {f:List (List Int)} (h:f ≠ []):f.getLastD [] ∈ f:=by
 cases f with
 | nil => exact absurd rfl h
 | cons a t => rw [List.getLastD_cons];exact (by cases t <;> simp [List.getLastD])
theorem dforF_ok {code:List Int} (hc:qP code):∀ (fu left n:Nat) {s:Nat × Int} {out:List (List Int)},FOk n out→s.1 ≤ code.length→FOk (n + left) (dforF code fu left s out).1∧(dforF code fu left s out).2.1 ≤ code.length
 | 0,left,n,s,out,h,hs => ⟨⟨h.lev,h.can,by have:=h.sum;show qX out ≤ _;omega⟩,hs⟩
 | fu + 1,left,n,s,out,h,hs => by
  have h':FOk (n + left) out:=⟨h.lev,h.can,by have:=h.sum;omega⟩
  unfold dforF
  split
  ·exact ⟨h',hs⟩
  ·rename_i hl0
   obtain ⟨h1,h2⟩:=wX hc (m:=left) hs
   have h3:=drawF_len hc (m:=left) hs (by omega)
   have hlev:=vH h1.lev
   have hlen:=qW0 h1.lev
   have hidem:=canon_idem h1.lev
   obtain ⟨p,hp⟩:∃ p,p = drawF code s left:=⟨_,rfl⟩
   rw [← hp] at h1 h2 h3 hlev hlen hidem ⊢
   simp only
   have h3:p.1.length ≤ left:=by omega
   have key:∀ (t:List Int) (s':Nat × Int),qK t→canon t = t→t.length ≤ left→s'.1 ≤ code.length→FOk (n + left) (dforF code fu (left - t.length) s' (out ++ [t])).1∧(dforF code fu (left - t.length) s' (out ++ [t])).2.1 ≤ code.length:=by
    intro t s' k1 k2 k3 k4
    have:=dforF_ok hc fu (left - t.length) (n + t.length) (h.snoc k1 k2 (Nat.le_refl _)) k4
    rw [show n + t.length + (left - t.length) = n + left by omega] at this
    exact this
   split
   ·rename_i ho
    have hm:=getLastL_mem ho.1
    have h4:=jJ (n:=3) h2
    split
    ·exact key _ _ (h.lev _ hm) (h.can _ hm) ho.2 h4
    ·exact key _ _ hlev hidem (by omega) h4
   ·exact key _ _ hlev hidem (by omega) h2
theorem lastL_get {f:List (List Int)} (h:f ≠ []):Option.map eL f.getLast? = some [.sl 1 ((f.getLastD []).map eI)]:=by
 cases f with
 | nil => exact absurd rfl h
 | cons a t => rw [List.getLast?_cons,List.getLastD_cons,← List.getLastD_eq_getLast?];rfl
theorem kS {f:List (List Int)} (h:∀ t ∈ f,qK t):f.length ≤ qX f:=by
 induction f with
 | nil => exact Nat.le_refl _
 | cons a f ih =>
  have h1:=(h a (by simp)).pos
  have h2:=ih (fun t ht => h t (by simp [ht]))
  have e:qX (a :: f) = a.length + qX f:=by simp [qX]
  rw [e,List.length_cons];omega
def kX (code:List Int) (s:Nat × Int) (m:Int):List Res × (Nat × Int):=([.own 1 ((yT code s m).1.map eL) true],(yT code s m).2)
theorem jP0 {code:List Int} (hc:qP code) (hl:code.length ≤ 1000000000):yS Tryz.prog 125 code (drw1 (kX code)):=by
 refine drw1_of fun s m hs hm1 hm2 => ?_
 have hpin:=kV hc hl
 have hdw:=(p_l03Draw hc hl).ok
 have hw0:w64 (m + 1) = m + 1:=qG (by omega)
 have hdr:=yQ code s (m + 1) hs
 have hbd:=jG hc s (m + 1)
 have hat:=jJ (n:=m + 1) hs
 unfold kX yT
 obtain ⟨⟨nn,s1⟩,hp⟩:∃ p,p = nxtF code s (m + 1):=⟨_,rfl⟩
 rw [← hp] at hdr hbd hat ⊢
 simp only [eI] at hdr hbd hat ⊢
 obtain ⟨n,rfl⟩:∃ n:Nat,nn = n:=⟨nn.toNat,by omega⟩
 have hn:n ≤ 1000:=by omega
 rw [Int.toNat_natCast]
 have hok:=(dforF_ok hc n n 0 (s:=s1) (out:=[]) ⟨by simp,by simp,by simp [qX]⟩ hat).1
 obtain ⟨Z,hZ⟩:∃ Z,Z = dforF code n n s1 []:=⟨_,rfl⟩
 rw [← hZ] at hok ⊢
 have hso:=a_l03Sort Z.1 (by
  have:=kS (f:=Z.1) hok.lev
  have:=hok.sum
  omega) (fun b hb => by
  have:=xV hb
  have:=hok.sum
  omega)
 simp only [eLL,eL] at hso
 refine AEp.of_runs (qQ 60) Tryz.func125 rfl rfl rfl (fun _ => rfl) gz ?_
 have hres:Tryz.f125.results.toList = [.tmp 4]:=rfl
 have hrts:Tryz.f125.resultTypes.toList = [36]:=rfl
 simp only [List.length_cons,List.length_nil,jA,if_true,qV,qU,eL,eI,eLL,eB,Nat.zero_add,Nat.reduceAdd]
 intro M og cap
 refine qJ.of ?_
 repeat' (first|with_reducible (first|refine Q1 ?_|refine Q2 ?_|refine Q3 ?_|refine Q4 ?_|refine Q5 ?_|refine Q6 ?_|refine Q7 ?_|refine Q8 ?_|refine Q9 ?_|refine Qa ?_|refine Qb ?_|refine Qc ?_|refine Qd ?_|refine Qe ?_|refine Qf ?_|refine QO ?_|refine QV 8 ?_|refine QY 8 ?_)|with_reducible ((first|apply QS (qQ 60) (Tab.none.pin 82 (nxtE code) hpin)|apply QC);refine QW ?_;simp only [Zg,Zi,seval,reduceCtorEq,Nat.reduceEqDiff,hdr,nxtE,hw0];rfl))
 refine qJ.loop (β:=Nat × Nat × (Nat × Int) × List (List Int)) (γ:=Unit) (fun x => ⟨[(0,.optr 0 0 0),(5,.c (.own 5 x.2.2.2.length)),(6,.c (.val (.int x.2.1)))],[(0,.pin og cap 3 [srcD code x.2.2.1]),(5,.row 1 (x.2.2.2.map eL) false)]⟩)
  (fun x => x.2.1 ≤ x.1∧x.2.1 ≤ n∧x.2.2.1.1 ≤ code.length∧FOk (n - x.2.1) x.2.2.2∧dforF code x.1 x.2.1 x.2.2.1 x.2.2.2 = Z) (fun x => x.2.1)
  (fun _ => ⟨[(0,.optr 0 0 0),(5,.c (.own 5 Z.1.length))],[(0,.pin og cap 3 [srcD code Z.2]),(5,.row 1 (Z.1.map eL) false)]⟩) (fun _ => True) (n,n,s1,[]) ⟨Nat.le_refl _,Nat.le_refl _,hat,⟨by simp,by simp,by simp [qX]⟩,hZ.symm⟩ ?_ ?_ ?_
 ·(repeat' (first|exact Qn|((with_reducible refine Qr ?_ ?_);focus first|with_reducible rfl|(simp only [Zz,Nat.reduceBEq,List.map_nil,List.length_nil];done)|rfl)|((with_reducible apply Qj);rfl)|((with_reducible refine Qw ?_ ?_);(focus first|with_reducible rfl|(simp only [Zv,List.map_nil,List.length_nil];done));first|exact id|exact nofun|exact fun _=>rfl)))
  all_goals first|exact ⟨rfl,rfl⟩|exact ⟨rfl,rfl,id⟩|exact ⟨rfl,rfl,rfl,rfl⟩|exact ⟨rfl,rfl,fun h => nomatch h⟩
 ·rintro ⟨k,left,s,out⟩ ⟨hlk,hln,hs,hfo,hdz⟩
  simp only at hlk hln hs hfo hdz
  by_cases h0:0 < left
  rotate_left
  ·obtain rfl:left = 0:=by omega
   have e:dforF code k 0 s out = (out,s):=by cases k <;> rfl
   rw [e] at hdz
   have i1:(((0:Nat):Int) > 0) = False:=eq_false (by omega)
   rw [← hdz]
   repeat' (first|with_reducible (first|refine Q1 ?_|refine Q2 ?_|refine Q3 ?_|refine Q4 ?_|refine Q5 ?_|refine Q6 ?_|refine Q7 ?_|refine Q8 ?_|refine Q9 ?_|refine Qa ?_|refine Qb ?_|refine Qc ?_|refine Qd ?_|refine Qe ?_|refine Qf ?_|refine QO ?_|refine QV 8 ?_|refine QY 8 ?_)|with_reducible ((first|apply QS (qQ 60) Tab.none|apply QC);refine QW ?_;simp only [Zg,Zi,seval,reduceCtorEq,Nat.reduceEqDiff,i1];rfl))
   refine qW.out () trivial ?_
   (repeat' (first|exact Qn|((with_reducible refine Qr ?_ ?_);focus first|with_reducible rfl|(simp only [Zz,Nat.reduceBEq];done)|rfl)|((with_reducible apply Qj);rfl)|((with_reducible refine Qw ?_ ?_);(focus first|with_reducible rfl|(simp only [Zv];done));first|exact id|exact nofun|exact fun _=>rfl)))
   all_goals first|exact ⟨rfl,rfl⟩|exact ⟨rfl,rfl,id⟩|exact ⟨rfl,rfl,rfl,rfl⟩
  obtain ⟨k,rfl⟩:∃ j,k = j + 1:=⟨k - 1,by omega⟩
  have i1:((left:Int) > 0) = True:=eq_true (by omega)
  have hdt:drwG code (drw1 (drawG code)) 3 [srcD code s] [[.int (left:Int)]] = some ([.own 1 ((drawF code s left).1.map eI) true],[srcD code (drawF code s left).2]):=kR hs ⟨by omega,by omega⟩
  obtain ⟨g1,g2⟩:=wX hc (m:=left) hs
  have g3:=drawF_len hc (m:=left) hs (by omega)
  have gl:=vH g1.lev
  have gn:=qW0 g1.lev
  have gi:=canon_idem g1.lev
  have hca:=a_l03CanonB (drawF code s left).1 g1.lev (by omega)
  have hds:dforF code (k + 1) left s out = (if out ≠ []∧(out.getLastD []).length ≤ left then
    dforF code k (left - (if (nxtF code (drawF code s left).2 3).1 = 0 then out.getLastD [] else canon (drawF code s left).1).length) (nxtF code (drawF code s left).2 3).2 (out ++ [if (nxtF code (drawF code s left).2 3).1 = 0 then out.getLastD [] else canon (drawF code s left).1])
   else dforF code k (left - (canon (drawF code s left).1).length) (drawF code s left).2 (out ++ [canon (drawF code s left).1])):=by
   show (if left = 0 then (out,s) else _) = _
   rw [if_neg (by omega)]
  rw [hds] at hdz
  obtain ⟨⟨p,s2⟩,hp2⟩:∃ q,q = drawF code s left:=⟨_,rfl⟩
  rw [← hp2] at hdt g1 g2 g3 gl gn gi hca hdz
  simp only at hdt g1 g2 g3 gl gn gi hca hdz
  obtain ⟨ct,hct⟩:∃ ct,ct = canon p:=⟨_,rfl⟩
  rw [← hct] at gl gn gi hca hdz
  have hol:=kS (f:=out) hfo.lev
  have hos:=hfo.sum
  have hom:(out.map eL).length = out.length:=List.length_map _
  have q1:=jI (n:=out.length + 1) (by omega)
  have q2:=jH (n:=out.length + 1) (c:=24) (by omega) (by omega)
  have hwl:w64 (((out.length + 1:Nat):Int) - 1) = (out.length:Int):=by rw [qG (by omega)];omega
  have k2:((0:Int) ≤ (out.length:Int)) = True:=eq_true (by omega)
  have k3:((out.length:Int) < ((out.length + 1:Nat):Int)) = True:=eq_true (by omega)
  have key:∀ (t:List Int) (s':Nat × Int),qK t→canon t = t→t.length ≤ left→s'.1 ≤ code.length→dforF code k (left - t.length) s' (out ++ [t]) = Z →
    (left - t.length ≤ k∧left - t.length ≤ n∧s'.1 ≤ code.length∧FOk (n - (left - t.length)) (out ++ [t])∧dforF code k (left - t.length) s' (out ++ [t]) = Z)∧left - t.length < left:=fun t s' h1 h2 h3 h4 h5 => by
   have:=h1.posL
   have hsn:=hfo.snoc h1 h2 (Nat.le_refl t.length)
   refine ⟨⟨by omega,by omega,h4,?_,h5⟩,by omega⟩
   rw [show n - (left - t.length) = n - left + t.length by omega]
   exact hsn
  have hgt:∀ t:List Int,(out.map eL ++ [[D.sl 1 (t.map eI)]])[out.length]? = some [D.sl 1 (t.map eI)]:=fun t => by
   rw [List.getElem?_append_right (by rw [hom];exact Nat.le_refl _),hom,Nat.sub_self];rfl
  have hgtl:∀ t:List Int,(out.map eL ++ [[D.sl 1 (t.map eI)]]).length = out.length + 1:=fun t => by rw [List.length_append,hom];rfl
  simp only [eL] at hca
  by_cases ho:out = []
  ·subst ho
   rw [if_neg (fun h => h.1 rfl)] at hdz
   obtain ⟨kk,kl⟩:=key ct s2 gl gi (by omega) g2 hdz
   have z1:(((0:Nat):Int) > 0) = False:=eq_false (by omega)
   have hcl:(ct.map eI).length = ct.length:=List.length_map _
   have hw6:w64 ((left:Int) - (ct.length:Int)) = ((left - ct.length:Nat):Int):=by rw [qG (by omega)];omega
   have u1:w64 (1 - 1) = 0:=by rw [qG (by omega)];rfl
   have u2:((0:Int) ≤ 0) = True:=eq_true (by omega)
   have u3:((0:Int) < 1) = True:=eq_true (by omega)
   have t0:(0:Int).toNat = 0:=rfl
   have u0:w64 0 = 0:=by rw [qG (by omega)]
   have u1':w64 (((1:Nat):Int) - 1) = 0:=by rw [qG (by omega)];rfl
   have u3':((0:Int) < ((1:Nat):Int)) = True:=eq_true (by omega)
   repeat' (first|with_reducible (first|refine Q1 ?_|refine Q2 ?_|refine Q3 ?_|refine Q4 ?_|refine Q5 ?_|refine Q6 ?_|refine Q7 ?_|refine Q8 ?_|refine Q9 ?_|refine Qa ?_|refine Qb ?_|refine Qc ?_|refine Qd ?_|refine Qe ?_|refine Qf ?_|refine QO ?_|refine QV 8 ?_|refine QY 8 ?_)|with_reducible ((first|apply QS (qQ 60) ((((Tab.none.pin 82 (nxtE code) hpin).pin 126 (drwE code (drw1 (drawG code))) hdw).at' 186 hca))|apply QC);refine QW ?_;simp only [Zg,Zi,seval,reduceCtorEq,Nat.reduceEqDiff,hdt,nxtE,drwE,i1,z1,q1,q2,hcl,hw6,u0,u1,u1',u2,u3,u3',t0];rfl))
   refine qW.on (k,left - ct.length,s2,[ct]) ⟨kk,kl⟩ ?_
   (repeat' (first|exact Qn|((with_reducible refine Qr ?_ ?_);focus first|with_reducible rfl|(simp only [Zz,Nat.reduceBEq,List.map_cons,List.map_nil,eL,List.length_singleton];done)|rfl)|((with_reducible apply Qj);rfl)|((with_reducible refine Qw ?_ ?_);(focus first|with_reducible rfl|(simp only [Zv,List.map_cons,List.map_nil,eL,List.length_singleton];done));first|exact id|exact nofun|exact fun _=>rfl)))
   all_goals first|exact ⟨rfl,rfl⟩|exact ⟨rfl,rfl,id⟩|exact ⟨rfl,rfl,rfl,rfl⟩|exact ⟨rfl,rfl,fun h => nomatch h⟩
  have hop:0 < out.length:=List.length_pos_iff.2 ho
  have z1:((out.length:Int) > 0) = True:=eq_true (by omega)
  have hlm:=getLastL_mem ho
  have hll:=xV hlm
  have hlv:=hfo.lev _ hlm
  have hlc:=hfo.can _ hlm
  have hgl:(out.map eL)[out.length - 1]? = some [.sl 1 ((out.getLastD []).map eI)]:=by
   rw [List.getElem?_map,← List.getLast?_eq_getElem?]
   exact lastL_get ho
  obtain ⟨la,hla⟩:∃ la,la = out.getLastD []:=⟨_,rfl⟩
  rw [← hla] at hll hlv hlc hgl hdz
  have hlaM:(la.map eI).length = la.length:=List.length_map _
  have w5:w64 ((out.length:Int) - 1) = ((out.length - 1:Nat):Int):=by rw [qG (by omega)];omega
  have k5:((0:Int) ≤ ((out.length - 1:Nat):Int)) = True:=eq_true (by omega)
  have k6:(((out.length - 1:Nat):Int) < (out.length:Int)) = True:=eq_true (by omega)
  have hcl:(ct.map eI).length = ct.length:=List.length_map _
  have tail:∀ (t:List Int) (s':Nat × Int),t.length ≤ left→(t.map eI).length = t.length∧w64 ((left:Int) - (t.length:Int)) = ((left - t.length:Nat):Int):=fun t s' h => ⟨List.length_map _,by rw [qG (by omega)];omega⟩
  by_cases hle:la.length ≤ left
  rotate_left
  ·rw [if_neg (fun h => hle h.2)] at hdz
   obtain ⟨kk,kl⟩:=key ct s2 gl gi (by omega) g2 hdz
   have z2:((la.length:Int) ≤ (left:Int)) = False:=eq_false (by omega)
   obtain ⟨_,hw6⟩:=tail ct s2 (by omega)
   repeat' (first|with_reducible (first|refine Q1 ?_|refine Q2 ?_|refine Q3 ?_|refine Q4 ?_|refine Q5 ?_|refine Q6 ?_|refine Q7 ?_|refine Q8 ?_|refine Q9 ?_|refine Qa ?_|refine Qb ?_|refine Qc ?_|refine Qd ?_|refine Qe ?_|refine Qf ?_|refine QO ?_|refine QV 8 ?_|refine QY 8 ?_)|with_reducible ((first|apply QS (qQ 60) ((((Tab.none.pin 82 (nxtE code) hpin).pin 126 (drwE code (drw1 (drawG code))) hdw).at' 186 hca))|apply QC);refine QW ?_;simp only [Zg,Zi,seval,reduceCtorEq,Nat.reduceEqDiff,hdt,nxtE,drwE,i1,z1,z2,q1,q2,hcl,hw6,hom,w5,k5,k6,hgl,hlaM,hwl,k2,k3,hgt,hgtl,Int.toNat_natCast];rfl))
   refine qW.on (k,left - ct.length,s2,out ++ [ct]) ⟨kk,kl⟩ ?_
   (repeat' (first|exact Qn|((with_reducible refine Qr ?_ ?_);focus first|with_reducible rfl|(simp only [Zz,Nat.reduceBEq,List.map_append,List.map_cons,List.map_nil,eL,List.length_append,List.length_singleton];done)|rfl)|((with_reducible apply Qj);rfl)|((with_reducible refine Qw ?_ ?_);(focus first|with_reducible rfl|(simp only [Zv,List.map_append,List.map_cons,List.map_nil,eL,List.length_append,List.length_singleton];done));first|exact id|exact nofun|exact fun _=>rfl)))
   all_goals first|exact ⟨rfl,rfl⟩|exact ⟨rfl,rfl,id⟩|exact ⟨rfl,rfl,rfl,rfl⟩|exact ⟨rfl,rfl,fun h => nomatch h⟩
  ·rw [if_pos ⟨ho,hle⟩] at hdz
   have z2:((la.length:Int) ≤ (left:Int)) = True:=eq_true (by omega)
   have hd3:=yQ code s2 3 g2
   have ha3:=jJ (n:=3) g2
   obtain ⟨⟨cc,s3⟩,hc3⟩:∃ q,q = nxtF code s2 3:=⟨_,rfl⟩
   rw [← hc3] at hd3 ha3 hdz
   simp only [eI] at hd3 ha3 hdz
   by_cases hc0:cc = 0
   ·subst hc0
    rw [if_pos rfl] at hdz
    obtain ⟨kk,kl⟩:=key la s3 hlv hlc hle ha3 hdz
    obtain ⟨_,hw6⟩:=tail la s3 hle
    have how:=a_l01Own la (by omega)
    simp only [eL] at how
    repeat' (first|with_reducible (first|refine Q1 ?_|refine Q2 ?_|refine Q3 ?_|refine Q4 ?_|refine Q5 ?_|refine Q6 ?_|refine Q7 ?_|refine Q8 ?_|refine Q9 ?_|refine Qa ?_|refine Qb ?_|refine Qc ?_|refine Qd ?_|refine Qe ?_|refine Qf ?_|refine QO ?_|refine QV 8 ?_|refine QY 8 ?_)|with_reducible ((first|apply QS (qQ 60) (((((Tab.none.pin 82 (nxtE code) hpin).pin 126 (drwE code (drw1 (drawG code))) hdw).at' 186 hca).at' 133 how))|apply QC);refine QW ?_;simp only [Zg,Zi,seval,reduceCtorEq,Nat.reduceEqDiff,hdt,hd3,nxtE,drwE,i1,z1,z2,q1,q2,hcl,hw6,hom,w5,k5,k6,hgl,hlaM,hwl,k2,k3,hgt,hgtl,Int.toNat_natCast];rfl))
    refine qW.on (k,left - la.length,s3,out ++ [la]) ⟨kk,kl⟩ ?_
    (repeat' (first|exact Qn|((with_reducible refine Qr ?_ ?_);focus first|with_reducible rfl|(simp only [Zz,Nat.reduceBEq,List.map_append,List.map_cons,List.map_nil,eL,List.length_append,List.length_singleton];done)|rfl)|((with_reducible apply Qj);rfl)|((with_reducible refine Qw ?_ ?_);(focus first|with_reducible rfl|(simp only [Zv,List.map_append,List.map_cons,List.map_nil,eL,List.length_append,List.length_singleton];done));first|exact id|exact nofun|exact fun _=>rfl)))
    all_goals first|exact ⟨rfl,rfl⟩|exact ⟨rfl,rfl,id⟩|exact ⟨rfl,rfl,rfl,rfl⟩|exact ⟨rfl,rfl,fun h => nomatch h⟩
   ·rw [if_neg hc0] at hdz
    obtain ⟨kk,kl⟩:=key ct s3 gl gi (by omega) ha3 hdz
    obtain ⟨_,hw6⟩:=tail ct s3 (by omega)
    have bc0:(cc == 0) = false:=by simp [hc0]
    repeat' (first|with_reducible (first|refine Q1 ?_|refine Q2 ?_|refine Q3 ?_|refine Q4 ?_|refine Q5 ?_|refine Q6 ?_|refine Q7 ?_|refine Q8 ?_|refine Q9 ?_|refine Qa ?_|refine Qb ?_|refine Qc ?_|refine Qd ?_|refine Qe ?_|refine Qf ?_|refine QO ?_|refine QV 8 ?_|refine QY 8 ?_)|with_reducible ((first|apply QS (qQ 60) ((((Tab.none.pin 82 (nxtE code) hpin).pin 126 (drwE code (drw1 (drawG code))) hdw).at' 186 hca))|apply QC);refine QW ?_;simp only [Zg,Zi,seval,reduceCtorEq,Nat.reduceEqDiff,hdt,hd3,nxtE,drwE,i1,z1,z2,bc0,q1,q2,hcl,hw6,hom,w5,k5,k6,hgl,hlaM,hwl,k2,k3,hgt,hgtl,Int.toNat_natCast];rfl))
    refine qW.on (k,left - ct.length,s3,out ++ [ct]) ⟨kk,kl⟩ ?_
    (repeat' (first|exact Qn|((with_reducible refine Qr ?_ ?_);focus first|with_reducible rfl|(simp only [Zz,Nat.reduceBEq,List.map_append,List.map_cons,List.map_nil,eL,List.length_append,List.length_singleton];done)|rfl)|((with_reducible apply Qj);rfl)|((with_reducible refine Qw ?_ ?_);(focus first|with_reducible rfl|(simp only [Zv,List.map_append,List.map_cons,List.map_nil,eL,List.length_append,List.length_singleton];done));first|exact id|exact nofun|exact fun _=>rfl)))
    all_goals first|exact ⟨rfl,rfl⟩|exact ⟨rfl,rfl,id⟩|exact ⟨rfl,rfl,rfl,rfl⟩|exact ⟨rfl,rfl,fun h => nomatch h⟩
 ·rintro _ _
  repeat' (first|with_reducible (first|refine Q1 ?_|refine Q2 ?_|refine Q3 ?_|refine Q4 ?_|refine Q5 ?_|refine Q6 ?_|refine Q7 ?_|refine Q8 ?_|refine Q9 ?_|refine Qa ?_|refine Qb ?_|refine Qc ?_|refine Qd ?_|refine Qe ?_|refine Qf ?_|refine QO ?_|refine QV 8 ?_|refine QY 8 ?_)|with_reducible ((first|apply QS (qQ 60) (Tab.none.at' 187 hso)|apply QC);refine QW ?_;simp only [Zg,Zi,seval,reduceCtorEq,Nat.reduceEqDiff,eL];rfl))
  (refine EndsP.mk (by simp) (rs:=?_) (ks:=?_) (xs':=?_) hres hrts ?_ ?_ ?_ ?_ ?_;rotate_left 3;(focus (simp only [Ze,Zg,Zi,seval,reduceCtorEq,Nat.reduceEqDiff];with_reducible rfl));(focus simp);(focus simp);(focus (simp only [look,Nat.reduceEqDiff,Nat.reduceBEq,if_true,if_false];rfl));focus (first|exact ⟨rfl,rfl⟩|exact ⟨rfl,rfl,rfl⟩|skip))
def RU:Rep Int where
 k:=1
 rd:=fun _ _ cs n => cs = [.int .u8 n]∧0 ≤ n∧n ≤ 255
 own:=fun _ cs n F => (cs = [.int .u8 n]∧0 ≤ n∧n ≤ 255)∧F = []
 kpos:=by decide
 rd_len:=by intro A w cs x h;rw [h.1];rfl
 rd_one:=by intro A w cs x h v hv;rw [h.1] at hv;simp at hv;subst hv;rfl
 rd_frame:=fun h _ => h
 rd_mono:=fun h _ => h
 own_rd:=fun h => h.1
 own_frame:=fun h _ => h
 own_lt:=by intro w cs x F h b hb;rw [h.2] at hb;simp at hb
abbrev RBytes:Rep (List Int):=RS RU
theorem opU8:Opens Tryz.prog RU 5:=by
 intro H enc w base spare held fuel cs x h
 obtain ⟨n,rfl,_,hw⟩:=DataW.trod_int Tryz.underlying5 h
 exact ⟨n,rfl,bounds_u8 hw⟩
theorem opBytes:Opens Tryz.prog RBytes 22:=Opens.slice Tryz.underlying22 (by kernel_rfl) opU8
theorem rdU_to {A:Nat→Prop} {w:World}:∀ {code:List Int} {ds:List Value},rdL RU A w ds code→rdL (RK 1 (by decide) (RC 0)) A w ds (code.map eU)∧qP code
 | [],_,h => ⟨h,fun c hc => nomatch hc⟩
 | c :: code,ds,⟨c1,d1,e,⟨h1,h2,h3⟩,h4⟩ => by
  obtain ⟨h5,h6⟩:=rdU_to h4
  refine ⟨⟨c1,d1,e,⟨by rw [h1];rfl,rfl,?_⟩,h5⟩,fun x hx => ?_⟩
  ·rw [h1]
   exact kA.2 ⟨rfl,rfl⟩
  ·rcases List.mem_cons.1 hx with rfl|hx
   ·omega
   ·exact h6 x hx
theorem arg_bytes {w:World} {u:Value} {code:List Int} (h:Rd RBytes w [u] code):kW (· < w.heap.size) w (eCode code) u∧qP code:=by
 obtain ⟨oa,cap,ds,h1,h2,h3,h4,h5,h6⟩:=h
 obtain ⟨k1,k2⟩:=rdU_to h5
 refine ⟨?_,k2⟩
 show rdV _ w u (.sl 1 (code.map eU))
 rw [yE]
 rw [List.length_map]
 exact ⟨oa,cap,ds,(List.cons.inj h1).1,h2,h3,h4,⟨0,by decide,k1⟩,h6⟩
theorem law_code {f:FuncId} (hf:∀ code:List Int,qP code→AFn Tryz.prog f [eCode code] (· = [.val (.bool true)])) (v:Value) (code:List Int) (w:World) (h:Rd RBytes w [v] code):Calls Tryz.prog f #[v] w (RetV w (.bool true)):=by
 obtain ⟨h1,h2⟩:=arg_bytes h
 exact AFn.one (fun _ _ _ h => jD.1 h) (hf code h2) (args1 h1)
theorem a_big (code:List Int):AFn Tryz.prog 10 [eCode code] (· = [.val (.bool (decide (4096 < code.length)))]):=by
 by_cases h:4096 < code.length
 ·have i1:((code.length:Int) > 4096) = True:=eq_true (by omega)
  rw [decide_eq_true h]
  refine AFn.of_runs (qQ 6) Tryz.func10 rfl rfl rfl gz ?_
  have hres:Tryz.f10.results.toList = [.tmp 2]:=rfl
  have hrts:Tryz.f10.resultTypes.toList = [4]:=rfl
  simp only [qV,qU,eL,eI,eLL,eB,Nat.zero_add,Nat.reduceAdd,eCode,dCode]
  intro M
  refine qJ.of ?_
  refine gw69 i1 ?_
  exact gw2
 ·have i1:((code.length:Int) > 4096) = False:=eq_false (by omega)
  rw [decide_eq_false h]
  refine AFn.of_runs (qQ 6) Tryz.func10 rfl rfl rfl gz ?_
  have hres:Tryz.f10.results.toList = [.tmp 2]:=rfl
  have hrts:Tryz.f10.resultTypes.toList = [4]:=rfl
  simp only [qV,qU,eL,eI,eLL,eB,Nat.zero_add,Nat.reduceAdd,eCode,dCode]
  intro M
  refine qJ.of ?_
  refine gw69 i1 ?_
  exact gw2
def xM (code:List Int) (s:Nat × Int) (m:Int):List (List Int) × (Nat × Int) :=
 let f:=yT code s m
 let c:=nxtF code f.2 24
 if c.1 = 0 then
  let t:=drawF code c.2 4
  (f.1 ++ [t.1],t.2)
 else if c.1 = 1 then
  let t:=xW code c.2 3
  (f.1 ++ [t.1],t.2)
 else if c.1 = 2 then ([0,1,1] :: f.1,c.2)
 else (f.1,c.2)
structure FAOk (n:Nat) (f:List (List Int)):Prop where
 sum:qX f ≤ n
 len:f.length ≤ n
theorem wL {code:List Int} (hc:qP code) {s:Nat × Int} {m:Int} (hs:s.1 ≤ code.length):FOk m.toNat (yT code s m).1∧(yT code s m).2.1 ≤ code.length:=by
 have hb:=jG hc s (m + 1)
 have ha:=jJ (n:=m + 1) hs
 obtain ⟨h1,h2⟩:=dforF_ok hc (nxtF code s (m + 1)).1.toNat (nxtF code s (m + 1)).1.toNat 0 (s:=(nxtF code s (m + 1)).2) (out:=[]) ⟨by simp,by simp,by simp [qX]⟩ ha
 unfold yT
 simp only
 obtain ⟨Z,hZ⟩:∃ Z,Z = dforF code (nxtF code s (m + 1)).1.toNat (nxtF code s (m + 1)).1.toNat (nxtF code s (m + 1)).2 []:=⟨_,rfl⟩
 rw [← hZ] at h1 h2 ⊢
 refine ⟨⟨fun t ht => h1.lev t (kL.1 ht),fun t ht => h1.can t (kL.1 ht),?_⟩,h2⟩
 have:=qI0 (show (sortC cmpT Z.1).Perm Z.1 from xO _)
 have hsu:=h1.sum
 show qX (sortC cmpT Z.1) ≤ _
 omega
theorem drawForAnyF_ok {code:List Int} (hc:qP code) {s:Nat × Int} {m:Int} (hs:s.1 ≤ code.length):FAOk (m.toNat + 13) (xM code s m).1∧(xM code s m).2.1 ≤ code.length:=by
 obtain ⟨h1,h2⟩:=wL hc (m:=m) hs
 unfold xM
 obtain ⟨f,hf⟩:∃ f,f = yT code s m:=⟨_,rfl⟩
 rw [← hf] at h1 h2 ⊢
 simp only
 have hl:=kS h1.lev
 have hsu:=h1.sum
 have h3:=jJ (n:=24) h2
 split
 ·obtain ⟨g1,g2⟩:=wX hc (m:=4) h3
  have:=g1.len
  refine ⟨⟨?_,by simp;omega⟩,g2⟩
  rw [vV]
  have e:qX [(drawF code (nxtF code f.2 24).2 4).1] = (drawF code (nxtF code f.2 24).2 4).1.length:=by simp [qX]
  have h4:(4:Int).toNat = 4:=rfl
  omega
 ·split
  ·obtain ⟨g1,g2⟩:=drawAnyF_ok hc (m:=3) h3
   have:=g1.len
   refine ⟨⟨?_,by simp;omega⟩,g2⟩
   rw [vV]
   have e:qX [(xW code (nxtF code f.2 24).2 3).1] = (xW code (nxtF code f.2 24).2 3).1.length:=by simp [qX]
   have h4:(3:Int).toNat = 3:=rfl
   omega
  ·split
   ·refine ⟨⟨?_,by simp;omega⟩,h3⟩
    have e:qX ([0,1,1] :: f.1) = 3 + qX f.1:=by simp [qX]
    show qX ([0,1,1] :: f.1) ≤ _
    omega
   ·exact ⟨⟨show qX f.1 ≤ _ by omega,show f.1.length ≤ _ by omega⟩,h3⟩
def wW (code:List Int) (s:Nat × Int) (m:Int):List Res × (Nat × Int):=([.own 1 ((xM code s m).1.map eL) false],(xM code s m).2)
theorem AEp.forget {P:Program} {f:FuncId} {ptr:Bool} {k k':Nat} {xs xs0 ys:List (List D)} {post:List (List D)} (h:AEp P f ptr k xs post (fun r x => r = [.own k' ys true]∧x = xs0)):AEp P f ptr k xs post (fun r x => r = [.own k' ys false]∧x = xs0):=by
 refine ⟨h.call,fun A w us og cap ds a1 a2 a3 a4 a5 a6 => (h.fn A w us og cap ds a1 a2 a3 a4 a5 a6).mono ?_⟩
 rintro e w' ⟨v,rs,x',ds',us',G,X,rfl,⟨rfl,rfl⟩,hb,rfl,hG1,hG2,hrel,hlen,hrow,hrd⟩
 obtain ⟨v1,us1,G1,G2,Y1,Y2,rfl,e1,e2,ho,⟨og',cap',F,dd,rfl,hrow',hk',e3,e4,hel⟩,hend⟩:=hrel
 have hend:us1 = []∧G2 = []∧Y2 = []:=hend
 obtain ⟨rfl,rfl,rfl⟩:=hend
 have hel:ownR k' w' dd ys F:=hel
 rw [List.append_nil] at e1 e2
 have e3:G1 = og'.toList ++ F:=e3
 subst e3;subst e4;subst e1;subst e2
 refine ⟨_,_,_,ds',[_],og'.toList,og'.toList,rfl,⟨rfl,rfl⟩,hb,rfl,(List.nodup_append.1 hG1).1,fun b hb' => hG2 b (List.mem_append_left _ hb'),?_,hlen,hrow,hrd⟩
 refine ⟨_,[],og'.toList,[],og'.toList,[],rfl,by simp,by simp,ho,⟨og',cap',[],dd,rfl,hrow',hk',by simp,rfl,?_⟩,rfl,rfl,rfl⟩
 show rdR k' (fun b => (A b ∨ w.heap.size ≤ b)∧b ∉ og'.toList) w' dd ys
 exact hel.rd.mono (fun b hb' _ => ⟨.inr (hG2 b (List.mem_append_right _ hb')),fun h2 => (List.nodup_append.1 hG1).2.2 b h2 b hb' rfl⟩)
theorem yL0 {code:List Int} (hc:qP code) (hl:code.length ≤ 1000000000):yS Tryz.prog 63 code (drw1 (wW code)):=by
 refine drw1_of fun s m hs hm1 hm2 => ?_
 have hpin:=kV hc hl
 have hdw:=(p_l03Draw hc hl).ok
 have hda:=(p_l03DrawAny hc hl).ok
 have hdf:=(jP0 hc hl).ok
 have hdt:drwG code (drw1 (kX code)) 3 [srcD code s] [[.int m]] = some ([.own 1 ((yT code s m).1.map eL) true],[srcD code (yT code s m).2]):=kR hs ⟨hm1,hm2⟩
 obtain ⟨h1,h2⟩:=wL hc (m:=m) hs
 have hdr:=yQ code (yT code s m).2 24 h2
 have hat:=jJ (n:=24) h2
 unfold wW xM
 obtain ⟨⟨f,s1⟩,hp⟩:∃ p,p = yT code s m:=⟨_,rfl⟩
 rw [← hp] at h1 h2 hdr hat hdt ⊢
 simp only at h1 h2 hdr hat hdt ⊢
 obtain ⟨⟨c,s2⟩,hq⟩:∃ p,p = nxtF code s1 24:=⟨_,rfl⟩
 rw [← hq] at hdr hat ⊢
 simp only [eI] at hdr hat ⊢
 have hfl:=kS h1.lev
 have hfs:=h1.sum
 have hfm:(f.map eL).length = f.length:=List.length_map _
 have q1:=jI (n:=f.length + 1) (by omega)
 have q2:=jH (n:=f.length + 1) (c:=24) (by omega) (by omega)
 by_cases c0:c = 0
 ·refine AEp.forget ?_
  subst c0
  have hd0:drwG code (drw1 (drawG code)) 3 [srcD code s2] [[.int (4:Int)]] = some ([.own 1 ((drawF code s2 4).1.map eI) true],[srcD code (drawF code s2 4).2]):=kR hat (by omega)
  obtain ⟨⟨t,s3⟩,ht⟩:∃ p,p = drawF code s2 4:=⟨_,rfl⟩
  rw [← ht] at hd0 ⊢
  simp only [if_true] at hd0 ⊢
  rw [show (f ++ [t]).map eL = f.map eL ++ [[D.sl 1 (t.map eI)]] by rw [List.map_append];rfl]
  refine AEp.of_runs (qQ 32) Tryz.func63 rfl rfl rfl (fun _ => rfl) gz ?_
  have hres:Tryz.f63.results.toList = [.tmp 4]:=rfl
  have hrts:Tryz.f63.resultTypes.toList = [36]:=rfl
  simp only [List.length_cons,List.length_nil,jA,if_true,qV,qU,eL,eI,eLL,eB,Nat.zero_add,Nat.reduceAdd]
  intro M og cap
  refine qJ.of ?_
  refine gw70 (Y6 hdr hdt hd0 hfm q1 q2) ?_
  exact gw58
 ·have e0:(c == 0) = false:=by simp [c0]
  by_cases c1:c = 1
  ·refine AEp.forget ?_
   subst c1
   have hd0:drwG code (drw1 (drawAnyG code)) 3 [srcD code s2] [[.int (3:Int)]] = some ([.own 1 ((xW code s2 3).1.map eI) true],[srcD code (xW code s2 3).2]):=kR hat (by omega)
   obtain ⟨⟨t,s3⟩,ht⟩:∃ p,p = xW code s2 3:=⟨_,rfl⟩
   rw [← ht] at hd0 ⊢
   rw [if_neg c0,if_pos rfl]
   simp only at hd0 ⊢
   rw [show (f ++ [t]).map eL = f.map eL ++ [[D.sl 1 (t.map eI)]] by rw [List.map_append];rfl]
   refine AEp.of_runs (qQ 32) Tryz.func63 rfl rfl rfl (fun _ => rfl) gz ?_
   have hres:Tryz.f63.results.toList = [.tmp 4]:=rfl
   have hrts:Tryz.f63.resultTypes.toList = [36]:=rfl
   simp only [List.length_cons,List.length_nil,jA,if_true,qV,qU,eL,eI,eLL,eB,Nat.zero_add,Nat.reduceAdd]
   intro M og cap
   refine qJ.of ?_
   refine gw71 (Y7 hdr hdt hd0 e0 hfm q1 q2) ?_
   exact gw58
  ·have e1:(c == 1) = false:=by simp [c1]
   by_cases c2:c = 2
   ·subst c2
    rw [if_neg c0,if_neg c1,if_pos rfl]
    rw [show ([0,1,1] :: f).map eL = [D.sl 1 [[D.int 0],[D.int 1],[D.int 1]]] :: f.map eL from rfl]
    have q3:=jI (n:=1 + f.length) (by omega)
    have q4:=jH (n:=1 + f.length) (c:=24) (by omega) (by omega)
    refine AEp.of_runs (qQ 32) Tryz.func63 rfl rfl rfl (fun _ => rfl) gz ?_
    have hres:Tryz.f63.results.toList = [.tmp 4]:=rfl
    have hrts:Tryz.f63.resultTypes.toList = [36]:=rfl
    simp only [List.length_cons,List.length_nil,jA,if_true,qV,qU,eL,eI,eLL,eB,Nat.zero_add,Nat.reduceAdd]
    intro M og cap
    refine qJ.of ?_
    refine gw72 (Y5 hdr hdt e0 e1 hfm) ?_
    refine qJ.frz 5 ?_
    ((refine gw73 ?_);(with_reducible refine qJ.regCut (qQ 32) Tab.none 1 (s1:=?_) ?_ ?_);rotate_left 1;(focus ((with_reducible refine QW ?_);simp only [Zg,Zi,seval,reduceCtorEq,Nat.reduceEqDiff];with_reducible rfl));simp only [List.toList_toArray,List.drop_succ_cons,List.drop_zero])
    refine qZ.frzs [27] ?_
    (refine qZ.opsT (qQ 32) (T:=Tab.none) (s':=?_) ?_ ?_;rotate_left 1;focus (simp only [Zg,Zi,seval,reduceCtorEq,Nat.reduceEqDiff,hfm,q3,q4];with_reducible rfl))
    refine gw74 ?_
    exact gw58
   ·have e2:(c == 2) = false:=by simp [c2]
    rw [if_neg c0,if_neg c1,if_neg c2]
    refine AEp.forget ?_
    refine AEp.of_runs (qQ 32) Tryz.func63 rfl rfl rfl (fun _ => rfl) gz ?_
    have hres:Tryz.f63.results.toList = [.tmp 4]:=rfl
    have hrts:Tryz.f63.resultTypes.toList = [36]:=rfl
    simp only [List.length_cons,List.length_nil,jA,if_true,qV,qU,eL,eI,eLL,eB,Nat.zero_add,Nat.reduceAdd]
    intro M og cap
    refine qJ.of ?_
    refine gw72 (Y6 hdr hdt e0 e1 e2 hfm) ?_
    exact gw58
def powG:Nat→Int→Nat→Int→Int
 | 0,_,_,out => out
 | f + 1,a,k,out => if k = 0 then out else powG f (mP (a * a)) (k / 2) (if k % 2 = 1 then mP (out * a) else out)
theorem powG_zero (f:Nat) (a out:Int):powG f a 0 out = out:=by cases f <;> simp [powG]
theorem mP_bdW (n:Int):0 ≤ mP n∧mP n < 10007:=by unfold mP;omega
theorem powG_bd:∀ (f:Nat) (a:Int) (k:Nat) (out:Int),0 ≤ out∧out < 10007→0 ≤ powG f a k out∧powG f a k out < 10007
 | 0,_,_,_,h => h
 | f + 1,a,k,out,h => by
  unfold powG
  split
  ·exact h
  ·exact powG_bd f _ _ _ (by split;exact mP_bdW _;exact h)
theorem mul_bdW {a b:Int} (h1:0 ≤ a∧a < 10007) (h2:0 ≤ b∧b < 10007):0 ≤ a * b∧a * b ≤ 100140049:=by
 refine ⟨Int.mul_nonneg h1.1 h2.1,?_⟩
 have:=Int.mul_le_mul (a:=a) (b:=b) (c:=10007) (d:=10007) (by omega) (by omega) h2.1 (by omega)
 omega
theorem a_l01Pow (f:Nat) (a0:Int) (k0:Nat) (ha:0 ≤ a0∧a0 < 10007) (hk:k0 < 2 ^ f) (hk2:k0 ≤ 1000000000):AFn Tryz.prog 275 [eI a0,eI k0] (· = [.val (.int (powG f a0 k0 1))]):=by
 refine AFn.of_runs (qQ 20) Tryz.func275 rfl rfl rfl gz ?_
 have hres:Tryz.f275.results.toList = [.tmp 4]:=rfl
 have hrts:Tryz.f275.resultTypes.toList = [2]:=rfl
 simp only [qV,qU,eL,eI,eLL,eB,Nat.zero_add,Nat.reduceAdd]
 intro M
 refine qJ.of ?_
 refine gw75 Y0 ?_
 refine qJ.loop (β:=Nat × Int × Nat × Int) (γ:=Unit) (fun x => ⟨[(0,.c (.val (.int x.2.1))),(1,.c (.val (.int x.2.2.1))),(5,.c (.val (.int x.2.2.2)))],[]⟩) (fun x => (0 ≤ x.2.1∧x.2.1 < 10007)∧x.2.2.1 < 2 ^ x.1∧x.2.2.1 ≤ 1000000000∧(0 ≤ x.2.2.2∧x.2.2.2 < 10007)∧powG x.1 x.2.1 x.2.2.1 x.2.2.2 = powG f a0 k0 1) (fun x => x.2.2.1)
  (fun _ => ⟨[(5,.c (.val (.int (powG f a0 k0 1))))],[]⟩) (fun _ => True) (f,a0,k0,1) ⟨ha,hk,hk2,(by decide:(0:Int) ≤ 1∧(1:Int) < 10007),rfl⟩ ?_ ?_ ?_
 ·exact gw7 Y0
 ·rintro ⟨g,a,k,out⟩ ⟨h1,h2,h3,h4,h5⟩
  simp only at h1 h2 h3 h4 h5 ⊢
  by_cases h:k = 0
  ·subst h
   have i1:(((0:Nat):Int) > 0) = False:=eq_false (by omega)
   rw [powG_zero] at h5
   refine gw75 i1 ?_
   refine qW.out () trivial ?_
   rw [← h5]
   exact gw7 Y0
  ·have i1:((k:Int) > 0) = True:=eq_true (by omega)
   have hq:(k:Int).tdiv 2 = ((k / 2:Nat):Int):=by rw [Int.tdiv_eq_ediv_of_nonneg (by omega)];omega
   have hr:(k:Int).tmod 2 = ((k % 2:Nat):Int):=by rw [Int.tmod_eq_emod_of_nonneg (by omega)];omega
   have hw:w64 ((k / 2:Nat):Int) = ((k / 2:Nat):Int):=qG (by omega)
   obtain ⟨g,rfl⟩:∃ g',g = g' + 1:=by
    cases g with
    | zero => rw [Nat.pow_zero] at h2;omega
    | succ g => exact ⟨g,rfl⟩
   rw [Nat.pow_succ] at h2
   have haa:=mul_bdW h1 h1
   have hma:=vJ a a (by omega)
   have hst:powG (g + 1) a k out = powG g (mP (a * a)) (k / 2) (if k % 2 = 1 then mP (out * a) else out):=by
    conv => lhs;unfold powG
    rw [if_neg h]
   rw [hst] at h5
   simp only [eI] at hma
   by_cases hodd:k % 2 = 1
   ·have i2:(((k % 2:Nat):Int) == 1) = true:=beq_iff_eq.2 (by omega)
    have hoa:=mul_bdW h4 h1
    have hmo:=vJ out a (by omega)
    simp only [eI] at hmo
    rw [if_pos hodd] at h5
    ((refine gw76 i1 ?_);with_reducible (apply QS (qQ 20) Tab.none;refine QW ?_;simp only [Zg,Zi,seval,reduceCtorEq,Nat.reduceEqDiff,i1];rfl);(refine gw76 i1 ?_))
    ((refine gw76 (Y3 hr i2 (show ((2:Int) = 0) = False from eq_false (by decide))) ?_);with_reducible (apply QS (qQ 20) Tab.none;refine QW ?_;simp only [Zg,Zi,seval,reduceCtorEq,Nat.reduceEqDiff,hr,i2,show ((2:Int) = 0) = False from eq_false (by decide)];rfl);(refine gw76 (Y3 hr i2 (show ((2:Int) = 0) = False from eq_false (by decide))) ?_))
    ((refine gw76 i2 ?_);with_reducible (apply QS (qQ 20) (Tab.none.at' 98 hmo);refine QW ?_;simp only [Zg,Zi,seval,reduceCtorEq,Nat.reduceEqDiff,i2];rfl);(refine gw76 i2 ?_))
    ((refine gw76 Y0 ?_);with_reducible (apply QS (qQ 20) (Tab.none.at' 98 hma);refine QW ?_;simp only [Zg,Zi,seval,reduceCtorEq,Nat.reduceEqDiff];rfl);(refine gw76 Y0 ?_))
    refine gw75 (Y3 hq hw (show ((2:Int) = 0) = False from eq_false (by decide))) ?_
    refine qW.on (g,mP (a * a),k / 2,mP (out * a)) ⟨⟨mP_bdW _,by show k / 2 < 2 ^ g;omega,by show k / 2 ≤ _;omega,mP_bdW _,h5⟩,by show k / 2 < k;omega⟩ ?_
    exact gw7 Y0
   ·have i2:(((k % 2:Nat):Int) == 1) = false:=beq_eq_false_iff_ne.2 (by omega)
    rw [if_neg hodd] at h5
    refine gw77 (Y6 i1 hr i2 hq hw (show ((2:Int) = 0) = False from eq_false (by decide))) ?_
    refine qW.on (g,mP (a * a),k / 2,out) ⟨⟨mP_bdW _,by show k / 2 < 2 ^ g;omega,by show k / 2 ≤ _;omega,h4,h5⟩,by show k / 2 < k;omega⟩ ?_
    exact gw7 Y0
 ·rintro _ _
  refine gw75 Y0 ?_
  exact gw2
theorem a_l01Inv (a:Int) (ha:0 ≤ a∧a < 10007):AFn Tryz.prog 265 [eI a] (· = [.val (.int (powG 14 a 10005 1))]):=by
 have h:=a_l01Pow 14 a 10005 ha (by decide) (by decide)
 simp only [eI,show ((10005:Nat):Int) = 10005 from rfl] at h
 refine AFn.of_runs (qQ 5) Tryz.func265 rfl rfl rfl gz ?_
 have hres:Tryz.f265.results.toList = [.tmp 2]:=rfl
 have hrts:Tryz.f265.resultTypes.toList = [2]:=rfl
 simp only [qV,qU,eL,eI,eLL,eB,Nat.zero_add,Nat.reduceAdd]
 intro M
 refine qJ.of ?_
 refine gw78 ?_
 exact gw2
def drw0 (G:(Nat × Int)→List Res × (Nat × Int)) (s:Nat × Int):List (List D)→Option (List Res × (Nat × Int))
 | [] => some (G s)
 | _ => none
theorem drw0_eq {code:List Int} {G:(Nat × Int)→List Res × (Nat × Int)} {s:Nat × Int} (h:s.1 ≤ code.length):drwG code (drw0 G) 3 [srcD code s] [] = some ((G s).1,[srcD code (G s).2]):=by
 rw [drwG_eq h];rfl
theorem drw0_of {P:Program} {f:FuncId} {code:List Int} {G:(Nat × Int)→List Res × (Nat × Int)} (h:∀ s,s.1 ≤ code.length→AEp P f true 3 [srcD code s] [] (fun r x => r = (G s).1∧x = [srcD code (G s).2])):yS P f code (drw0 G):=by
 intro s post rs s' hs hp
 unfold drw0 at hp
 split at hp
 ·have e:=Option.some.inj hp
  have e1:rs = (G s).1:=by rw [e]
  have e2:s' = (G s).2:=by rw [e]
  subst e1;subst e2
  exact h s hs
 ·cases hp
def drw2 (G:(Nat × Int)→Int→Int→List Res × (Nat × Int)) (s:Nat × Int):List (List D)→Option (List Res × (Nat × Int))
 | [[.int a],[.int m]] => if (0 ≤ a∧a ≤ 10)∧0 ≤ m∧m ≤ 8 then some (G s a m) else none
 | _ => none
theorem drw2_eq {code:List Int} {G:(Nat × Int)→Int→Int→List Res × (Nat × Int)} {s:Nat × Int} (h:s.1 ≤ code.length) {a m:Int} (hm:(0 ≤ a∧a ≤ 10)∧0 ≤ m∧m ≤ 8):drwG code (drw2 G) 3 [srcD code s] [[.int a],[.int m]] = some ((G s a m).1,[srcD code (G s a m).2]):=by
 rw [drwG_eq h]
 show Option.map _ (if (0 ≤ a∧a ≤ 10)∧0 ≤ m∧m ≤ 8 then some (G s a m) else none) = _
 rw [if_pos hm];rfl
theorem drw2_of {P:Program} {f:FuncId} {code:List Int} {G:(Nat × Int)→Int→Int→List Res × (Nat × Int)} (h:∀ s a m,s.1 ≤ code.length→0 ≤ a→a ≤ 10→0 ≤ m→m ≤ 8→AEp P f true 3 [srcD code s] [[.int a],[.int m]] (fun r x => r = (G s a m).1∧x = [srcD code (G s a m).2])):yS P f code (drw2 G):=by
 intro s post rs s' hs hp
 unfold drw2 at hp
 split at hp
 ·rename_i a m
  split at hp
  ·rename_i hm
   have e:=Option.some.inj hp
   have e1:rs = (G s a m).1:=by rw [e]
   have e2:s' = (G s a m).2:=by rw [e]
   subst e1;subst e2
   exact h s a m hs hm.1.1 hm.1.2 hm.2.1 hm.2.2
  ·cases hp
 ·cases hp
def fracP (p q:Int):Int:=mP (mP p * powG 14 (mP q) 10005 1)
theorem fracP_bd (p q:Int):0 ≤ fracP p q∧fracP p q < 10007:=mP_bdW _
theorem a_l01FracG (p q:Int) (hp:-1000 ≤ p∧p ≤ 1000) (hq:-1000 ≤ q∧q ≤ 1000):AFn Tryz.prog 232 [eI p,eI q] (· = [.val (.int (fracP p q))]):=by
 have m1:=a_l01Mod p
 have m2:=a_l01Mod q
 have hb:=mP_bdW q
 have hp2:=mP_bdW p
 have hv:=powG_bd 14 (mP q) 10005 1 (by decide)
 have hbb:=mul_bdW hp2 hv
 have m3:=a_l01Inv (mP q) hb
 have m4:=vJ (mP p) (powG 14 (mP q) 10005 1) (by omega)
 unfold fracP
 simp only [eI] at m1 m2 m3 m4
 refine AFn.of_runs (qQ 11) Tryz.func232 rfl rfl rfl gz ?_
 have hres:Tryz.f232.results.toList = [.tmp 4]:=rfl
 have hrts:Tryz.f232.resultTypes.toList = [2]:=rfl
 simp only [qV,qU,eL,eI,eLL,eB,Nat.zero_add,Nat.reduceAdd]
 intro M
 refine qJ.of ?_
 refine gw79 ?_
 exact gw2
def xI:List Int:=[0,1,0,1,10006,2]
def numF (code:List Int) (s:Nat × Int):Int × (Nat × Int) :=
 let c:=nxtF code s 5
 if c.1 = 0 then nxtF code c.2 10007 else if c.1 = 1 then pickF code c.2 xI else
  let a:=nxtF code c.2 15
  let b:=nxtF code a.2 12
  (fracP (a.1 - 7) (1 + b.1),b.2)
theorem numF_ok {code:List Int} (hc:qP code) {s:Nat × Int} (hs:s.1 ≤ code.length):(0 ≤ (numF code s).1∧(numF code s).1 < 10007)∧(numF code s).2.1 ≤ code.length:=by
 unfold numF
 obtain ⟨c,hcd⟩:∃ c,c = nxtF code s 5:=⟨_,rfl⟩
 have h1:=jJ (n:=5) hs
 rw [← hcd] at h1 ⊢
 simp only
 split
 ·have hb:=jG hc c.2 10007
  exact ⟨by omega,jJ h1⟩
 ·split
  ·obtain ⟨h2,h3⟩:=pickF_ok hc h1 (l:=xI) (by decide)
   refine ⟨?_,h3⟩
   generalize (pickF code c.2 xI).1 = x at h2
   unfold xI at h2
   simp only [List.mem_cons,List.not_mem_nil,or_false] at h2
   omega
  ·exact ⟨fracP_bd _ _,jJ (jJ h1)⟩
def numG (code:List Int) (s:Nat × Int):List Res × (Nat × Int):=([.val (.int (numF code s).1)],(numF code s).2)
theorem p_l01Number {code:List Int} (hc:qP code) (hl:code.length ≤ 1000000000):yS Tryz.prog 199 code (drw0 (numG code)):=by
 refine drw0_of fun s hs => ?_
 have hpin:=kV hc hl
 have hpk:=(p_l01Pick hc hl).ok
 have hdr:=yQ code s 5 hs
 have hbd:=jG hc s 5
 have hat:=jJ (n:=5) hs
 unfold numG numF
 obtain ⟨⟨c,s1⟩,hp⟩:∃ p,p = nxtF code s 5:=⟨_,rfl⟩
 rw [← hp] at hdr hbd hat ⊢
 simp only [eI] at hdr hbd hat ⊢
 by_cases c0:c = 0
 ·subst c0
  have hd0:=yQ code s1 10007 hat
  obtain ⟨⟨x,s2⟩,hp⟩:∃ p,p = nxtF code s1 10007:=⟨_,rfl⟩
  rw [← hp] at hd0 ⊢
  simp only [eI,if_true] at hd0 ⊢
  refine AEp.of_runs (qQ 21) Tryz.func199 rfl rfl rfl (fun _ => rfl) gz ?_
  have hres:Tryz.f199.results.toList = [.tmp 2]:=rfl
  have hrts:Tryz.f199.resultTypes.toList = [2]:=rfl
  simp only [List.length_cons,List.length_nil,jA,if_true,qV,qU,eL,eI,eLL,eB,Nat.zero_add,Nat.reduceAdd]
  intro M og cap
  refine qJ.of ?_
  refine gw80 (Yp hdr hd0) ?_
  exact gw58
 have e0:(c == 0) = false:=by simp [c0]
 by_cases c1:c = 1
 ·subst c1
  have hd0:=drwL_eq (G:=pickG code) hat (l:=xI) (by decide) (by decide)
  have e2:pickG code s1 xI = ([.val (.int (pickF code s1 xI).1)],(pickF code s1 xI).2):=rfl
  rw [e2] at hd0
  rw [if_neg c0,if_pos rfl]
  obtain ⟨⟨x,s2⟩,hp⟩:∃ p,p = pickF code s1 xI:=⟨_,rfl⟩
  rw [← hp] at hd0 ⊢
  simp only [xI,List.map_cons,List.map_nil,eI] at hd0 ⊢
  refine AEp.of_runs (qQ 21) Tryz.func199 rfl rfl rfl (fun _ => rfl) gz ?_
  have hres:Tryz.f199.results.toList = [.tmp 2]:=rfl
  have hrts:Tryz.f199.resultTypes.toList = [2]:=rfl
  simp only [List.length_cons,List.length_nil,jA,if_true,qV,qU,eL,eI,eLL,eB,Nat.zero_add,Nat.reduceAdd]
  intro M og cap
  refine qJ.of ?_
  refine gw80 (Yp hdr e0) ?_
  ((refine gw81 ?_);(with_reducible refine qJ.regCut (qQ 21) Tab.none 2 (s1:=?_) ?_ ?_);rotate_left 1;(focus ((with_reducible refine QW ?_);simp only [Zg,Zi,seval,reduceCtorEq,Nat.reduceEqDiff];with_reducible rfl));simp only [List.toList_toArray,List.drop_succ_cons,List.drop_zero])
  refine qZ.frzs [12] ?_
  (refine qZ.opsT (qQ 21) (T:=Tab.none.pin 147 (drwE code (drwL (pickG code))) hpk) (s':=?_) ?_ ?_;rotate_left 1;focus (simp only [Zg,Zi,seval,reduceCtorEq,Nat.reduceEqDiff,hd0,drwE];with_reducible rfl))
  refine gw39 ?_
  exact gw58
 have e1:(c == 1) = false:=by simp [c1]
 rw [if_neg c0,if_neg c1]
 have hd0:=yQ code s1 15 hat
 have hb0:=jG hc s1 15
 have ha0:=jJ (n:=15) hat
 obtain ⟨⟨x,s2⟩,hp⟩:∃ p,p = nxtF code s1 15:=⟨_,rfl⟩
 rw [← hp] at hd0 hb0 ha0 ⊢
 simp only [eI] at hd0 hb0 ha0 ⊢
 have hd1:=yQ code s2 12 ha0
 have hb1:=jG hc s2 12
 obtain ⟨⟨y,s3⟩,hp⟩:∃ p,p = nxtF code s2 12:=⟨_,rfl⟩
 rw [← hp] at hd1 hb1 ⊢
 simp only [eI] at hd1 hb1 ⊢
 have hfr:=a_l01FracG (x - 7) (1 + y) (by omega) (by omega)
 have w1:w64 (x - 7) = x - 7:=qG (by omega)
 have w2:w64 (1 + y) = 1 + y:=qG (by omega)
 simp only [eI] at hfr
 refine AEp.of_runs (qQ 21) Tryz.func199 rfl rfl rfl (fun _ => rfl) gz ?_
 have hres:Tryz.f199.results.toList = [.tmp 2]:=rfl
 have hrts:Tryz.f199.resultTypes.toList = [2]:=rfl
 simp only [List.length_cons,List.length_nil,jA,if_true,qV,qU,eL,eI,eLL,eB,Nat.zero_add,Nat.reduceAdd]
 intro M og cap
 refine qJ.of ?_
 refine gw82 (Y7 hdr hd0 hd1 e0 e1 w1 w2) ?_
 exact gw58
def xN (code:List Int) (most:Int):Nat→(Nat × Int)→Elt→Elt × (Nat × Int)
 | 0,s,e => (e,s)
 | k + 1,s,e =>
  let a:=numF code s
  let f:=yT code a.2 most
  xN code most k f.2 (putS cmpF e a.1 f.1)
def xG (code:List Int) (s:Nat × Int) (parts most:Int):Elt × (Nat × Int) :=
 let n:=nxtF code s (parts + 1)
 xN code most n.1.toNat n.2 []
structure EOk (n m:Nat) (e:Elt):Prop where
 len:e.length ≤ n
 ok:∀ q ∈ e,(1 ≤ q.1∧q.1 < 10007)∧FOk m q.2∧q.2.length ≤ m
theorem EOk.okE {n m:Nat} (hm:m ≤ 8) {e:Elt} (h:EOk n m e):∀ q ∈ e,(1 ≤ q.1∧q.1 < 10007)∧SmF q.2:=fun q hq => by
 obtain ⟨h1,h2,h3⟩:=h.ok q hq
 have:=h2.sum
 exact ⟨h1,by omega,by omega⟩
theorem putS_len' (c:List (List Int)→List (List Int)→Int) (k:Int) (x:List (List Int)):∀ (e:Elt),(putS c e k x).length ≤ e.length + 1
 | [] => by unfold putS;split <;> simp
 | (a,y) :: L => by
  have ih:=putS_len' c k x L
  unfold putS
  repeat' split
  all_goals simp only [List.length_cons] at ih ⊢
  all_goals omega
theorem putS_coefs {k:Int} {x:List (List Int)} (hk:0 ≤ k∧k < 10007):∀ {L:Elt},(∀ q ∈ L,1 ≤ q.1∧q.1 < 10007)→∀ q ∈ putS cmpF L k x,1 ≤ q.1∧q.1 < 10007
 | [],_ => by
  unfold putS
  split
  ·exact fun q hq => nomatch hq
  ·intro q hq
   rw [List.mem_singleton] at hq;subst hq
   simp only;omega
 | (a,y) :: L,he => by
  have ha:=he (a,y) (by simp)
  have hL:∀ q ∈ L,1 ≤ q.1∧q.1 < 10007:=fun q hq => he q (by simp [hq])
  unfold putS
  split
  ·exact he
  ·split
   ·intro q hq
    rcases List.mem_cons.1 hq with rfl|hq
    ·simp only;omega
    ·exact he q hq
   ·split
    ·split
     ·exact hL
     ·intro q hq
      rcases List.mem_cons.1 hq with rfl|hq
      ·have:=jO (a + k);simp only;omega
      ·exact hL q hq
    ·intro q hq
     rcases List.mem_cons.1 hq with rfl|hq
     ·exact ha
     ·exact putS_coefs hk hL q hq
theorem EOk.put {n m:Nat} {e:Elt} (h:EOk n m e) {k:Int} (hk:0 ≤ k∧k < 10007) {f:List (List Int)} (hf:FOk m f):EOk (n + 1) m (putS cmpF e k f):=by
 refine ⟨Nat.le_trans (putS_len' cmpF k f e) (by have:=h.len;omega),fun q hq => ⟨putS_coefs hk (fun q hq => (h.ok q hq).1) q hq,?_⟩⟩
 have key:FOk m q.2:=by
  rcases putS_mem e k f hq with h1|⟨p,h1,h2⟩
  ·rw [h1];exact hf
  ·rw [← h2];exact (h.ok p h1).2.1
 exact ⟨key,Nat.le_trans (kS key.lev) key.sum⟩
theorem drawElN_ok {code:List Int} (hc:qP code) {most:Int}:∀ (k:Nat) {s:Nat × Int} {e:Elt} {n:Nat},EOk n most.toNat e→s.1 ≤ code.length→EOk (n + k) most.toNat (xN code most k s e).1∧(xN code most k s e).2.1 ≤ code.length
 | 0,_,_,_,h,hs => ⟨h,hs⟩
 | k + 1,s,e,n,h,hs => by
  obtain ⟨h1,h2⟩:=numF_ok hc hs
  obtain ⟨h3,h4⟩:=wL hc (m:=most) h2
  have:=drawElN_ok hc (most:=most) k (h.put h1 h3) h4
  rw [show n + (k + 1) = n + 1 + k by omega]
  exact this
theorem drawElF_ok {code:List Int} (hc:qP code) {s:Nat × Int} {parts most:Int} (hs:s.1 ≤ code.length) (hp:0 ≤ parts):EOk parts.toNat most.toNat (xG code s parts most).1∧(xG code s parts most).2.1 ≤ code.length:=by
 have hb:=jG hc s (parts + 1)
 have h:=drawElN_ok hc (most:=most) (nxtF code s (parts + 1)).1.toNat (s:=(nxtF code s (parts + 1)).2) (e:=[]) (n:=0) ⟨Nat.le_refl _,fun q hq => nomatch hq⟩ (jJ hs)
 refine ⟨⟨Nat.le_trans h.1.len (by omega),h.1.ok⟩,h.2⟩
def drawElG (code:List Int) (s:Nat × Int) (parts most:Int):List Res × (Nat × Int):=([.own 2 ((xG code s parts most).1.map ePt) false],(xG code s parts most).2)
theorem p_l06Draw {code:List Int} (hc:qP code) (hl:code.length ≤ 1000000000):yS Tryz.prog 146 code (drw2 (drawElG code)):=by
 refine drw2_of fun s parts most hs hp0 hp1 hm0 hm1 => ?_
 have hpin:=kV hc hl
 have hnm:=(p_l01Number hc hl).ok
 have hdf:=(jP0 hc hl).ok
 have hdr:=yQ code s (parts + 1) hs
 have hbd:=jG hc s (parts + 1)
 have hat:=jJ (n:=parts + 1) hs
 have w0:w64 (parts + 1) = parts + 1:=qG (by omega)
 unfold drawElG xG
 obtain ⟨⟨kk,s1⟩,hp⟩:∃ p,p = nxtF code s (parts + 1):=⟨_,rfl⟩
 rw [← hp] at hdr hbd hat ⊢
 simp only at hdr hbd hat ⊢
 obtain ⟨k,rfl⟩:∃ k:Nat,kk = k:=⟨kk.toNat,by omega⟩
 rw [Int.toNat_natCast]
 have hk:k ≤ 10:=by omega
 simp only [eI] at hdr
 refine AEp.of_runs (qQ 26) Tryz.func146 rfl rfl rfl (fun _ => rfl) gz ?_
 have hres:Tryz.f146.results.toList = [.tmp 6]:=rfl
 have hrts:Tryz.f146.resultTypes.toList = [50]:=rfl
 simp only [List.length_cons,List.length_nil,jA,if_true,qV,qU,eL,eI,eLL,eB,Nat.zero_add,Nat.reduceAdd]
 intro M og cap
 refine qJ.of ?_
 refine gw83 (Yp hdr w0) ?_
 refine qJ.loop (β:=Nat × (Nat × Int) × Elt) (γ:=Elt × (Nat × Int)) (fun x => ⟨[(0,.optr 0 0 0),(2,.c (.val (.int most))),(7,.c (.own 7 x.2.2.length)),(8,.c (.val (.int x.1)))],[(0,.pin og cap 3 [srcD code x.2.1]),(7,.row 2 (x.2.2.map ePt) false)]⟩)
  (fun x => x.1 ≤ k∧x.2.1.1 ≤ code.length∧EOk (k - x.1) most.toNat x.2.2∧xN code most x.1 x.2.1 x.2.2 = xN code most k s1 []) (fun x => x.1)
  (fun z => ⟨[(0,.optr 0 0 0),(7,.c (.own 7 z.1.length))],[(0,.pin og cap 3 [srcD code z.2]),(7,.row 2 (z.1.map ePt) false)]⟩) (fun z => z = xN code most k s1 []) (k,s1,[]) ⟨Nat.le_refl _,hat,⟨by simp,fun q hq => nomatch hq⟩,rfl⟩ ?_ ?_ ?_
 ·(repeat' (first|exact Qn|((with_reducible refine Qr ?_ ?_);focus first|with_reducible rfl|(simp only [Zz,Nat.reduceBEq,List.map_nil,List.length_nil];done)|rfl)|((with_reducible apply Qj);rfl)|((with_reducible refine Qw ?_ ?_);(focus first|with_reducible rfl|(simp only [Zv,List.map_nil,List.length_nil];done));first|exact id|exact nofun|exact fun _=>rfl)))
  all_goals first|exact ⟨rfl,rfl⟩|exact ⟨rfl,rfl,id⟩|exact ⟨rfl,rfl,rfl,rfl⟩|exact ⟨rfl,rfl,fun h => nomatch h⟩
 ·rintro ⟨j,s,e⟩ ⟨hj,hs,he,hgr⟩
  simp only at hj hs he hgr
  by_cases h0:0 < j
  ·obtain ⟨j,rfl⟩:∃ i,j = i + 1:=⟨j - 1,by omega⟩
   have i1:(((j + 1:Nat):Int) > 0) = True:=eq_true (by omega)
   have hd1:=drw0_eq (G:=numG code) hs
   obtain ⟨h1,h2⟩:=numF_ok hc hs
   have hd2:=kR (G:=kX code) h2 (m:=most) (by omega)
   obtain ⟨h3,h4⟩:=wL hc (m:=most) h2
   have hgr:xN code most j (yT code (numF code s).2 most).2 (putS cmpF e (numF code s).1 (yT code (numF code s).2 most).1) = xN code most k s1 []:=hgr
   have e1:numG code s = ([.val (.int (numF code s).1)],(numF code s).2):=rfl
   rw [e1] at hd1
   obtain ⟨⟨a,s2⟩,hp⟩:∃ p,p = numF code s:=⟨_,rfl⟩
   rw [← hp] at hd1 hd2 h1 h2 h3 h4 hgr
   simp only at hd1 hd2 h1 h2 h3 h4 hgr
   have e2:kX code s2 most = ([.own 1 ((yT code s2 most).1.map eL) true],(yT code s2 most).2):=rfl
   rw [e2] at hd2
   obtain ⟨⟨f,s3⟩,hp⟩:∃ p,p = yT code s2 most:=⟨_,rfl⟩
   rw [← hp] at hd2 h3 h4 hgr
   simp only at hd2 h3 h4 hgr
   have hnext:=he.put h1 h3
   have hsm:SmF f:=by
    have g1:=kS h3.lev
    have g2:=h3.sum
    exact ⟨by omega,by omega⟩
   have hel:=he.len
   have hput:=a_l06PutO e a f (by omega) (he.okE (by omega)) h1 hsm
   have w4:w64 (((j + 1:Nat):Int) - 1) = j:=by rw [qG (by omega)];omega
   simp only [eI,eLL] at hput
   ((refine gw84 i1 ?_);with_reducible (apply QS (qQ 26) Tab.none;refine QW ?_;simp only [Zg,Zi,seval,reduceCtorEq,Nat.reduceEqDiff,i1];rfl);(refine gw84 i1 ?_))
   ((refine gw85 (Y3 hd1 hd2 i1) ?_);(with_reducible refine qJ.regCut (qQ 26) (((Tab.none.pin 82 (nxtE code) hpin).pin 199 (drwE code (drw0 (numG code))) hnm).pin 125 (drwE code (drw1 (kX code))) hdf) 6 (s1:=?_) ?_ ?_);rotate_left 1;(focus ((with_reducible refine QW ?_);simp only [Zg,Zi,seval,reduceCtorEq,Nat.reduceEqDiff,hd1,hd2,drwE,nxtE,i1];with_reducible rfl));simp only [List.toList_toArray,List.drop_succ_cons,List.drop_zero])
   refine qZ.frzs [23] ?_
   (refine qZ.opsT (qQ 26) (T:=Tab.none.own' 137 0 hput) (s':=?_) ?_ ?_;rotate_left 1;focus (simp only [Zg,Zi,seval,reduceCtorEq,Nat.reduceEqDiff,Tab.own',atOwn_eq];with_reducible rfl))
   refine gw86 w4 ?_
   refine qW.on (j,s3,putS cmpF e a f) ⟨⟨by omega,h4,?_,hgr⟩,by simp⟩ ?_
   ·rw [show k - j = k - (j + 1) + 1 by omega];exact hnext
   (repeat' (first|exact Qn|((with_reducible refine Qr ?_ ?_);focus first|with_reducible rfl|(simp only [Zz,Nat.reduceBEq];done)|rfl)|((with_reducible apply Qj);rfl)|((with_reducible refine Qw ?_ ?_);(focus first|with_reducible rfl|(simp only [Zv];done));first|exact id|exact nofun|exact fun _=>rfl)))
   all_goals first|exact ⟨rfl,rfl⟩|exact ⟨rfl,rfl,id⟩|exact ⟨rfl,rfl,rfl,rfl⟩|exact ⟨rfl,rfl,fun h => nomatch h⟩
  ·obtain rfl:j = 0:=by omega
   have i1:(((0:Nat):Int) > 0) = False:=eq_false (by omega)
   refine gw86 i1 ?_
   refine qW.out (e,s) hgr ?_
   (repeat' (first|exact Qn|((with_reducible refine Qr ?_ ?_);focus first|with_reducible rfl|(simp only [Zz,Nat.reduceBEq];done)|rfl)|((with_reducible apply Qj);rfl)|((with_reducible refine Qw ?_ ?_);(focus first|with_reducible rfl|(simp only [Zv];done));first|exact id|exact nofun|exact fun _=>rfl)))
   all_goals first|exact ⟨rfl,rfl⟩|exact ⟨rfl,rfl,id⟩|exact ⟨rfl,rfl,rfl,rfl⟩
 rintro z rfl
 refine gw86 Y0 ?_
 exact gw58
def xL:List Int:=[0,-1,10007]
def qR (code:List Int) (s:Nat × Int) (parts most:Int):Elt × (Nat × Int) :=
 let e:=xG code s parts most
 let c:=nxtF code e.2 24
 if c.1 = 0 then
  let k:=nxtF code c.2 2
  let f:=xM code k.2 most
  (e.1 ++ [(k.1,f.1)],f.2)
 else if c.1 = 1 then
  if 0 < e.1.length then
   let p:=pickF code c.2 xL
   (e.1.set 0 (p.1,(e.1.getD 0 (0,[])).2),p.2)
  else (e.1,c.2)
 else (e.1,c.2)
structure EAOk (n m:Nat) (e:Elt):Prop where
 len:e.length ≤ n
 ok:∀ q ∈ e,(-1 ≤ q.1∧q.1 ≤ 10007)∧FAOk m q.2
theorem EOk.any {n m:Nat} {e:Elt} (h:EOk n m e):EAOk (n + 1) (m + 13) e:=⟨by have:=h.len;omega,fun q hq => by
 obtain ⟨h1,h2,h3⟩:=h.ok q hq
 have:=h2.sum
 exact ⟨by omega,⟨by omega,by omega⟩⟩⟩
theorem kF {code:List Int} (hc:qP code) {s:Nat × Int} {parts most:Int} (hs:s.1 ≤ code.length) (hp:0 ≤ parts):EAOk (parts.toNat + 1) (most.toNat + 13) (qR code s parts most).1∧(qR code s parts most).2.1 ≤ code.length:=by
 obtain ⟨h1,h2⟩:=drawElF_ok hc (most:=most) hs hp
 unfold qR
 obtain ⟨e,he⟩:∃ e,e = xG code s parts most:=⟨_,rfl⟩
 rw [← he] at h1 h2 ⊢
 simp only
 have ha:=h1.any
 have h3:=jJ (n:=24) h2
 split
 ·have h4:=jJ (n:=2) h3
  have h5:=jG hc (nxtF code e.2 24).2 2
  obtain ⟨h6,h7⟩:=drawForAnyF_ok hc (m:=most) h4
  refine ⟨⟨by have:=h1.len;simp;omega,fun q hq => ?_⟩,h7⟩
  rcases List.mem_append.1 hq with hq|hq
  ·exact ha.ok q hq
  ·obtain rfl:=List.mem_singleton.1 hq
   exact ⟨by simp only;omega,h6⟩
 ·split
  ·split
   ·rename_i h0
    obtain ⟨h6,h7⟩:=pickF_ok hc h3 (l:=xL) (by decide)
    refine ⟨⟨by rw [List.length_set];exact ha.len,fun q hq => ?_⟩,h7⟩
    rcases List.mem_or_eq_of_mem_set hq with hq|rfl
    ·exact ha.ok q hq
    ·refine ⟨?_,?_⟩
     ·generalize (pickF code (nxtF code e.2 24).2 xL).1 = x at h6
      unfold xL at h6
      simp only [List.mem_cons,List.not_mem_nil,or_false] at h6
      (try simp only)
      omega
     ·have e0:e.1.getD 0 (0,[]) = e.1[0]:=by rw [List.getD_eq_getElem?_getD,List.getElem?_eq_getElem h0];rfl
      rw [e0]
      exact (ha.ok e.1[0] (List.getElem_mem _)).2
   ·exact ⟨ha,h3⟩
  ·exact ⟨ha,h3⟩
def xA (code:List Int) (s:Nat × Int) (parts most:Int):List Res × (Nat × Int):=([.own 2 ((qR code s parts most).1.map ePt) false],(qR code s parts most).2)
theorem p_l06DrawAny {code:List Int} (hc:qP code) (hl:code.length ≤ 1000000000):yS Tryz.prog 81 code (drw2 (xA code)):=by
 refine drw2_of fun s parts most hs hp0 hp1 hm0 hm1 => ?_
 have hpin:=kV hc hl
 have hpk:=(p_l01Pick hc hl).ok
 have hdw:=(p_l06Draw hc hl).ok
 have hfa:=(yL0 hc hl).ok
 have hd0:=drw2_eq (G:=drawElG code) hs (a:=parts) (m:=most) ⟨⟨hp0,hp1⟩,hm0,hm1⟩
 obtain ⟨h1,h2⟩:=drawElF_ok hc (most:=most) hs hp0
 have hdr:=yQ code (xG code s parts most).2 24 h2
 have hat:=jJ (n:=24) h2
 unfold xA qR
 have e0:drawElG code s parts most = ([.own 2 ((xG code s parts most).1.map ePt) false],(xG code s parts most).2):=rfl
 rw [e0] at hd0
 obtain ⟨⟨e,s1⟩,hp⟩:∃ p,p = xG code s parts most:=⟨_,rfl⟩
 rw [← hp] at h1 h2 hdr hat hd0 ⊢
 simp only at h1 h2 hdr hat hd0 ⊢
 obtain ⟨⟨c,s2⟩,hq⟩:∃ p,p = nxtF code s1 24:=⟨_,rfl⟩
 rw [← hq] at hdr hat ⊢
 simp only [eI] at hdr hat ⊢
 have hel:=h1.len
 have hem:(e.map ePt).length = e.length:=List.length_map _
 have q1:=jI (n:=e.length + 1) (by omega)
 have q2:=jH (n:=e.length + 1) (c:=32) (by omega) (by omega)
 by_cases c0:c = 0
 ·subst c0
  have hd1:=yQ code s2 2 hat
  have ha1:=jJ (n:=2) hat
  obtain ⟨⟨k,s3⟩,hk⟩:∃ p,p = nxtF code s2 2:=⟨_,rfl⟩
  rw [← hk] at hd1 ha1 ⊢
  simp only [eI,if_true] at hd1 ha1 ⊢
  have hd2:=kR (G:=wW code) ha1 (m:=most) (by omega)
  have e2:wW code s3 most = ([.own 1 ((xM code s3 most).1.map eL) false],(xM code s3 most).2):=rfl
  rw [e2] at hd2
  obtain ⟨⟨f,s4⟩,hf⟩:∃ p,p = xM code s3 most:=⟨_,rfl⟩
  rw [← hf] at hd2 ⊢
  simp only at hd2 ⊢
  rw [show (e ++ [(k,f)]).map ePt = e.map ePt ++ [[D.int k,D.sl 1 (f.map eL)]] by rw [List.map_append];rfl]
  refine AEp.of_runs (qQ 37) Tryz.func81 rfl rfl rfl (fun _ => rfl) gz ?_
  have hres:Tryz.f81.results.toList = [.tmp 6]:=rfl
  have hrts:Tryz.f81.resultTypes.toList = [50]:=rfl
  simp only [List.length_cons,List.length_nil,jA,if_true,qV,qU,eL,eI,eLL,eB,Nat.zero_add,Nat.reduceAdd]
  intro M og cap
  refine qJ.of ?_
  refine gw87 (Y7 hdr hd0 hd1 hd2 hem q1 q2) ?_
  exact gw58
 have f0:(c == 0) = false:=by simp [c0]
 by_cases c1:c = 1
 ·subst c1
  rw [if_neg c0,if_pos rfl]
  by_cases hpos:0 < e.length
  ·have hd1:=drwL_eq (G:=pickG code) hat (l:=xL) (by decide) (by decide)
   have e2:pickG code s2 xL = ([.val (.int (pickF code s2 xL).1)],(pickF code s2 xL).2):=rfl
   rw [e2] at hd1
   rw [if_pos hpos]
   obtain ⟨⟨x,s3⟩,hx⟩:∃ p,p = pickF code s2 xL:=⟨_,rfl⟩
   rw [← hx] at hd1 ⊢
   simp only [xL,List.map_cons,List.map_nil,eI] at hd1 ⊢
   have j1:((e.length:Int) > 0) = True:=eq_true (by omega)
   have j2:((0:Int) < (e.length:Int)) = True:=eq_true (by omega)
   have j3:((0:Int) ≤ 0) = True:=eq_true (by omega)
   have j4:(0:Int).toNat = 0:=rfl
   have eg:e.getD 0 (0,[]) = e[0]:=by rw [List.getD_eq_getElem?_getD,List.getElem?_eq_getElem hpos];rfl
   obtain ⟨y,hy⟩:∃ y,y = e[0]:=⟨_,rfl⟩
   rw [eg,← hy]
   have hg:(e.map ePt)[0]? = some [.int y.1,.sl 1 (y.2.map eL)]:=by rw [List.getElem?_map,List.getElem?_eq_getElem hpos,← hy];rfl
   have hset:(e.map ePt).set 0 [.int x,.sl 1 (y.2.map eL)] = (e.set 0 (x,y.2)).map ePt:=by rw [List.map_set];rfl
   rw [← hset]
   refine AEp.of_runs (qQ 37) Tryz.func81 rfl rfl rfl (fun _ => rfl) gz ?_
   have hres:Tryz.f81.results.toList = [.tmp 6]:=rfl
   have hrts:Tryz.f81.resultTypes.toList = [50]:=rfl
   simp only [List.length_cons,List.length_nil,jA,if_true,qV,qU,eL,eI,eLL,eB,Nat.zero_add,Nat.reduceAdd]
   intro M og cap
   refine qJ.of ?_
   refine gw88 (Y5 hdr hd0 f0 hem j1) ?_
   ((refine gw89 ?_);(with_reducible refine qJ.regCut (qQ 37) Tab.none 3 (s1:=?_) ?_ ?_);rotate_left 1;(focus ((with_reducible refine QW ?_);simp only [Zg,Zi,seval,reduceCtorEq,Nat.reduceEqDiff];with_reducible rfl));simp only [List.toList_toArray,List.drop_succ_cons,List.drop_zero])
   refine qZ.frzs [32] ?_
   (refine qZ.opsT (qQ 37) (T:=Tab.none.pin 147 (drwE code (drwL (pickG code))) hpk) (s':=?_) ?_ ?_;rotate_left 1;focus (simp only [Zg,Zi,seval,reduceCtorEq,Nat.reduceEqDiff,hd1,drwE,hem,hg,j2,j3,j4];with_reducible rfl))
   refine gw90 ?_
   exact gw58
  ·rw [if_neg hpos]
   have j1:((e.length:Int) > 0) = False:=eq_false (by omega)
   refine AEp.of_runs (qQ 37) Tryz.func81 rfl rfl rfl (fun _ => rfl) gz ?_
   have hres:Tryz.f81.results.toList = [.tmp 6]:=rfl
   have hrts:Tryz.f81.resultTypes.toList = [50]:=rfl
   simp only [List.length_cons,List.length_nil,jA,if_true,qV,qU,eL,eI,eLL,eB,Nat.zero_add,Nat.reduceAdd]
   intro M og cap
   refine qJ.of ?_
   refine gw88 (Y5 hdr hd0 f0 hem j1) ?_
   exact gw58
 have f1:(c == 1) = false:=by simp [c1]
 rw [if_neg c0,if_neg c1]
 refine AEp.of_runs (qQ 37) Tryz.func81 rfl rfl rfl (fun _ => rfl) gz ?_
 have hres:Tryz.f81.results.toList = [.tmp 6]:=rfl
 have hrts:Tryz.f81.resultTypes.toList = [50]:=rfl
 simp only [List.length_cons,List.length_nil,jA,if_true,qV,qU,eL,eI,eLL,eB,Nat.zero_add,Nat.reduceAdd]
 intro M og cap
 refine qJ.of ?_
 refine gw88 (Y5 hdr hd0 f0 f1 hem) ?_
 exact gw58
noncomputable def TDwE {code:List Int} (hc:qP code) (hl:code.length ≤ 1000000000):Tab Tryz.prog :=
 (Tab.none.pin 82 (nxtE code) (kV hc hl)).pin 81 (drwE code (drw2 (xA code))) (p_l06DrawAny hc hl).ok
def drawTm (code:List Int):Elt × Elt :=
 let d:=qR code (src0 code) 4 4
 let k:=nxtF code d.2 8
 (d.1,(qR code k.2 4 (4 + k.1 / 7)).1)
theorem drawTm_ok {code:List Int} (hc:qP code):EAOk 5 17 (drawTm code).1∧EAOk 5 18 (drawTm code).2:=by
 obtain ⟨h1,h2⟩:=kF hc (s:=src0 code) (parts:=4) (most:=4) (Nat.zero_le _) (by decide)
 have h3:=jJ (n:=8) h2
 have h4:=jG hc (qR code (src0 code) 4 4).2 8
 obtain ⟨h5,_⟩:=kF hc (parts:=4) (most:=4 + (nxtF code (qR code (src0 code) 4 4).2 8).1 / 7) h3 (by decide)
 refine ⟨h1,⟨h5.len,fun q hq => ⟨(h5.ok q hq).1,?_⟩⟩⟩
 have h6:=(h5.ok q hq).2
 have h7:=h6.sum
 have h8:=h6.len
 exact ⟨by omega,by omega⟩
theorem yF0 {code:List Int} (hc:qP code) (hl:code.length ≤ 1000000000):AFn Tryz.prog 29 [eCode code] (· = [.own 2 ((drawTm code).1.map ePt) false,.own 2 ((drawTm code).2.map ePt) false]):=by
 have hfrom:=p_l01From hc hl
 have hs:(src0 code).1 ≤ code.length:=Nat.zero_le _
 obtain ⟨_,h2⟩:=kF hc (s:=src0 code) (parts:=4) (most:=4) hs (by decide)
 have hd1:=drw2_eq (G:=xA code) hs (a:=4) (m:=4) (by decide)
 have hd2:=yQ code (qR code (src0 code) 4 4).2 8 h2
 have hbd:=jG hc (qR code (src0 code) 4 4).2 8
 have hat:=jJ (n:=8) h2
 unfold drawTm
 have e1:xA code (src0 code) 4 4 = ([.own 2 ((qR code (src0 code) 4 4).1.map ePt) false],(qR code (src0 code) 4 4).2):=rfl
 rw [e1] at hd1
 obtain ⟨⟨d,s1⟩,hp⟩:∃ p,p = qR code (src0 code) 4 4:=⟨_,rfl⟩
 rw [← hp] at hd1 hd2 hbd hat h2 ⊢
 simp only at hd1 hd2 hbd hat h2 ⊢
 obtain ⟨⟨k,s2⟩,hk⟩:∃ p,p = nxtF code s1 8:=⟨_,rfl⟩
 rw [← hk] at hd2 hbd hat ⊢
 simp only [eI] at hd2 hbd hat ⊢
 have hq7:k.tdiv 7 = k / 7:=Int.tdiv_eq_ediv_of_nonneg (by omega)
 have hw7:w64 (4 + k / 7) = 4 + k / 7:=qG (by omega)
 have hw8:w64 (k / 7) = k / 7:=qG (by omega)
 have hd3:=drw2_eq (G:=xA code) hat (a:=4) (m:=4 + k / 7) (by omega)
 have e2:xA code s2 4 (4 + k / 7) = ([.own 2 ((qR code s2 4 (4 + k / 7)).1.map ePt) false],(qR code s2 4 (4 + k / 7)).2):=rfl
 rw [e2] at hd3
 obtain ⟨⟨e,s3⟩,hq⟩:∃ p,p = qR code s2 4 (4 + k / 7):=⟨_,rfl⟩
 rw [← hq] at hd3 ⊢
 simp only at hd3 ⊢
 simp only [eCode,dCode] at hfrom ⊢
 refine AFn.of_runs (qQ 15) Tryz.func29 rfl rfl rfl gz ?_
 have hres:Tryz.f29.results.toList = [.tmp 2,.tmp 3]:=rfl
 have hrts:Tryz.f29.resultTypes.toList = [50,50]:=rfl
 simp only [qV,qU,eL,eI,eLL,eB,Nat.zero_add,Nat.reduceAdd,eCode,dCode]
 intro M
 refine qJ.of ?_
 ((refine gw81 ?_);with_reducible (apply QS (qQ 15) Tab.none;refine QW ?_;simp only [Zg,Zi,seval,reduceCtorEq,Nat.reduceEqDiff];rfl);(refine gw81 ?_))
 ((refine gw81 ?_);(with_reducible refine qJ.regCut (qQ 15) Tab.none 1 (s1:=?_) ?_ ?_);rotate_left 1;(focus ((with_reducible refine QW ?_);simp only [Zg,Zi,seval,reduceCtorEq,Nat.reduceEqDiff];with_reducible rfl));simp only [List.toList_toArray,List.drop_succ_cons,List.drop_zero])
 refine qZ.callR (qQ 15) rfl (d:=6) rfl (by decide) rfl rfl rfl rfl hfrom rfl ?_
 intro b
 (refine qZ.opsT (qQ 15) (T:=Tab.none) (s':=?_) ?_ ?_;rotate_left 1;focus (simp only [Zg,Zi,seval,reduceCtorEq,Nat.reduceEqDiff];with_reducible rfl))
 refine gw91 (Y7 hd1 hd2 hd3 hq7 hw7 hw8 (show ((7:Int) = 0) = False from eq_false (by decide))) ?_
 exact gw2
def keepX (z:Int × List (List Int)):Elt:=if z.1 = 0 then [] else [z]
def putX (k:Int) (f:List (List Int)):Bool→Elt→Elt
 | true,[] => []
 | false,[] => [(k,f)]
 | true,z :: e => keepX z ++ putX k f true e
 | false,z :: e => if cmpF f z.2 < 0 then (k,f) :: (keepX z ++ putX k f true e) else if cmpF f z.2 = 0 then keepX (mP (z.1 + k),z.2) ++ putX k f true e else keepX z ++ putX k f false e
def putXX (e:Elt) (k:Int) (f:List (List Int)):Elt:=if k = 0 then e else putX k f false e
def OkX (e:Elt):Prop:=∀ q ∈ e,(-20000 ≤ q.1∧q.1 ≤ 20000)∧SmF q.2
theorem keepX_ok {z:Int × List (List Int)} (h:(-20000 ≤ z.1∧z.1 ≤ 20000)∧SmF z.2):OkX (keepX z):=fun q hq => by
 unfold keepX at hq
 split at hq
 ·nomatch hq
 ·rw [List.mem_singleton] at hq;subst hq;exact h
theorem OkX.app {a b:Elt} (ha:OkX a) (hb:OkX b):OkX (a ++ b):=fun q hq => (List.mem_append.1 hq).elim (ha q) (hb q)
theorem wM (z:Int × List (List Int)):(keepX z).length ≤ 1:=by unfold keepX;split <;> simp
theorem putX_ok {k:Int} {f:List (List Int)} (hk:0 ≤ k∧k < 10007) (hf:SmF f):∀ {d:Bool} {e:Elt},OkX e→OkX (putX k f d e)
 | true,[],_ => fun q hq => nomatch hq
 | false,[],_ => fun q hq => by
  have hq:q ∈ [(k,f)]:=hq
  rw [List.mem_singleton] at hq;subst hq;exact ⟨by simp only;omega,hf⟩
 | true,z :: e,h => (keepX_ok (h z (by simp))).app (putX_ok hk hf (fun q hq => h q (by simp [hq])))
 | false,z :: e,h => by
  have h1:=h z (by simp)
  have h2:OkX e:=fun q hq => h q (by simp [hq])
  unfold putX
  split
  ·intro q hq
   rcases List.mem_cons.1 hq with rfl|hq
   ·exact ⟨by simp only;omega,hf⟩
   ·exact ((keepX_ok h1).app (putX_ok hk hf h2)) q hq
  ·split
   ·have:=jO (z.1 + k)
    exact (keepX_ok (z:=(mP (z.1 + k),z.2)) ⟨by simp only;omega,h1.2⟩).app (putX_ok hk hf h2)
   ·exact (keepX_ok h1).app (putX_ok hk hf h2)
theorem putX_len (k:Int) (f:List (List Int)):∀ (d:Bool) (e:Elt),(putX k f d e).length ≤ e.length + 1
 | true,[] => by simp [putX]
 | false,[] => by simp [putX]
 | true,z :: e => by
  have h1:=putX_len k f true e
  have h2:=wM z
  unfold putX;simp only [List.length_append,List.length_cons];omega
 | false,z :: e => by
  have h1:=putX_len k f true e
  have h1':(putX k f true e).length ≤ e.length:=putX_lenT k f e
  have h3:=putX_len k f false e
  have h2:=wM z
  have h4:=wM (mP (z.1 + k),z.2)
  unfold putX
  split
  ·simp only [List.length_append,List.length_cons];omega
  ·split
   ·simp only [List.length_append,List.length_cons];omega
   ·simp only [List.length_append,List.length_cons];omega
where putX_lenT (k:Int) (f:List (List Int)):∀ (e:Elt),(putX k f true e).length ≤ e.length
 | [] => by simp [putX]
 | z :: e => by
  have h1:=putX_lenT k f e
  have h2:=wM z
  unfold putX;simp only [List.length_append,List.length_cons];omega
theorem putXX_ok {e:Elt} {k:Int} {f:List (List Int)} (he:OkX e) (hk:0 ≤ k∧k < 10007) (hf:SmF f):OkX (putXX e k f):=by
 unfold putXX;split
 ·exact he
 ·exact putX_ok hk hf he
theorem putXX_len (e:Elt) (k:Int) (f:List (List Int)):(putXX e k f).length ≤ e.length + 1:=by
 unfold putXX;split
 ·omega
 ·exact putX_len k f false e
structure PutXI (e:Elt) (k:Int) (f:List (List Int)) (x:Nat × Bool × Elt):Prop where
 le:x.1 ≤ e.length
 eq:x.2.2 ++ putX k f x.2.1 (e.drop x.1) = putX k f false e
 len:x.2.2.length ≤ 2 * x.1
theorem a_l06PutX (e:Elt) (k:Int) (f:List (List Int)) (hl:e.length ≤ 100000) (he:OkX e) (hk:0 ≤ k∧k < 10007) (hf:SmF f):AFn Tryz.prog 137 [[.sl 2 (e.map ePt)],eI k,eLL f] (· = [.val (.sl 2 ((putXX e k f).map ePt))]):=by
 unfold putXX
 by_cases hk0:k = 0
 ·subst hk0
  rw [if_pos rfl]
  refine AFn.of_runs (qQ 68) Tryz.func137 rfl rfl rfl gz ?_
  have hres:Tryz.f137.results.toList = [.tmp 6]:=rfl
  have hrts:Tryz.f137.resultTypes.toList = [50]:=rfl
  simp only [qV,qU,eL,eI,eLL,eB,Nat.zero_add,Nat.reduceAdd]
  intro M
  refine qJ.of ?_
  refine gw41 Y0 ?_
  exact gw2
 rw [if_neg hk0]
 refine AFn.val1 ?_
 have hkb:(k == 0) = false:=beq_eq_false_iff_ne.2 hk0
 have hff:=eq_true hf
 refine AFn.of_runs (qQ 68) Tryz.func137 rfl rfl rfl gz ?_
 have hres:Tryz.f137.results.toList = [.tmp 6]:=rfl
 have hrts:Tryz.f137.resultTypes.toList = [50]:=rfl
 simp only [qV,qU,eL,eI,eLL,eB,Nat.zero_add,Nat.reduceAdd]
 intro M
 refine qJ.of ?_
 refine gw41 hkb ?_
 refine qJ.loop (β:=Nat × Bool × Elt) (γ:=Bool × Elt) (fun x => ⟨[(0,.c (.val (.sl 2 (e.map ePt)))),(1,.c (.val (.int k))),(2,.c (.val (.sl 1 (f.map eL)))),(7,.c (.own 7 x.2.2.length)),(8,.c (.val (.bool x.2.1))),(9,.c (.val (.int x.1)))],[(7,.row 2 (x.2.2.map ePt) false)]⟩) (PutXI e k f) (fun x => e.length - x.1)
  (fun x => ⟨[(0,.c (.val (.sl 2 (e.map ePt)))),(1,.c (.val (.int k))),(2,.c (.val (.sl 1 (f.map eL)))),(7,.c (.own 7 x.2.length)),(8,.c (.val (.bool x.1)))],[(7,.row 2 (x.2.map ePt) false)]⟩) (fun x => PutXI e k f (e.length,x)) (0,false,[]) ⟨Nat.zero_le _,rfl,Nat.zero_le _⟩ ?_ ?_ ?_
 ·exact gw42
 ·rintro ⟨i,d,o⟩ ⟨hi,heq,hlen⟩
  simp only at hi heq hlen ⊢
  have hw:=jW (n:=i) (by omega)
  have q1:=jI (n:=o.length + 1) (by omega)
  have q2:=jH (n:=o.length + 1) (c:=32) (by omega) (by omega)
  have q3:=jI (n:=o.length + 1 + 1) (by omega)
  have q4:=jH (n:=o.length + 1 + 1) (c:=32) (by omega) (by omega)
  by_cases h:i < e.length
  ·have i1:((i:Int) < (e.length:Int)) = True:=eq_true (by omega)
   have i2:((0:Int) ≤ (i:Int)) = True:=eq_true (by omega)
   obtain ⟨z,hz⟩:∃ z,z = e[i]:=⟨_,rfl⟩
   obtain ⟨⟨hz1,hz2⟩,hz3⟩:=he e[i] (List.getElem_mem _)
   have hg:(e.map ePt)[i]? = some [.int z.1,.sl 1 (z.2.map eL)]:=by rw [qN h,hz];rfl
   have hdr:e.drop i = z :: e.drop (i + 1):=by rw [hz];exact List.drop_eq_getElem_cons h
   rw [← hz] at hz1 hz2 hz3
   rw [hdr] at heq
   obtain ⟨R,hR⟩:∃ R,R = putX k f false e:=⟨_,rfl⟩
   rw [← hR] at heq
   have hzz:=eq_true hz3
   have hab:(-9223372036854775808 ≤ z.1 + k∧z.1 + k ≤ 9223372036854775807) = True:=eq_true (by omega)
   cases d with
   | true =>
    unfold putX at heq
    by_cases h0:z.1 = 0
    ·have hz0:(z.1 != 0) = false:=bne_eq_false_iff_eq.2 h0
     have hke:keepX z = []:=by unfold keepX;rw [if_pos h0]
     rw [hke] at heq
     refine gw45 (Y12 i1 i2 hg hw hz0 hff hzz hab q1 q2 q3 q4) ?_
     refine qW.on (i + 1,true,o) ⟨⟨h,?_,?_⟩,?_⟩ ?_
     ·show o ++ putX k f true (e.drop (i + 1)) = _
      rw [← hR,← heq];simp only [List.append_assoc,List.nil_append,List.cons_append]
     ·show (o).length ≤ 2 * (i + 1);omega
     ·show e.length - (i + 1) < e.length - i;omega
     ·exact gw44
    ·have hz0:(z.1 != 0) = true:=bne_iff_ne.2 h0
     have hke:keepX z = [z]:=by unfold keepX;rw [if_neg h0]
     rw [hke] at heq
     refine gw45 (Y12 i1 i2 hg hw hz0 hff hzz hab q1 q2 q3 q4) ?_
     refine qW.on (i + 1,true,o ++ [z]) ⟨⟨h,?_,?_⟩,?_⟩ ?_
     ·show o ++ [z] ++ putX k f true (e.drop (i + 1)) = _
      rw [← hR,← heq];simp only [List.append_assoc,List.nil_append,List.cons_append]
     ·show (o ++ [z]).length ≤ 2 * (i + 1);simp only [List.length_append,List.length_singleton];omega
     ·show e.length - (i + 1) < e.length - i;omega
     ·exact gw44
   | false =>
    unfold putX at heq
    rcases Int.lt_trichotomy (cmpF f z.2) 0 with hc|hc|hc
    ·have hs:=sgn_lt hc
     rw [if_pos hc] at heq
     by_cases h0:z.1 = 0
     ·have hz0:(z.1 != 0) = false:=bne_eq_false_iff_eq.2 h0
      have hke:keepX z = []:=by unfold keepX;rw [if_pos h0]
      rw [hke] at heq
      refine gw45 (Y12 i1 i2 hg hw hs hz0 hff hzz hab q1 q2 (Yp q3 q4)) ?_
      refine qW.on (i + 1,true,o ++ [(k,f)]) ⟨⟨h,?_,?_⟩,?_⟩ ?_
      ·show o ++ [(k,f)] ++ putX k f true (e.drop (i + 1)) = _
       rw [← hR,← heq];simp only [List.append_assoc,List.nil_append,List.cons_append]
      ·show (o ++ [(k,f)]).length ≤ 2 * (i + 1);simp only [List.length_append,List.length_singleton];omega
      ·show e.length - (i + 1) < e.length - i;omega
      ·exact gw44
     ·have hz0:(z.1 != 0) = true:=bne_iff_ne.2 h0
      have hke:keepX z = [z]:=by unfold keepX;rw [if_neg h0]
      rw [hke] at heq
      refine gw45 (Y12 i1 i2 hg hw hs hz0 hff hzz hab q1 q2 (Yp q3 q4)) ?_
      refine qW.on (i + 1,true,o ++ [(k,f)] ++ [z]) ⟨⟨h,?_,?_⟩,?_⟩ ?_
      ·show o ++ [(k,f)] ++ [z] ++ putX k f true (e.drop (i + 1)) = _
       rw [← hR,← heq];simp only [List.append_assoc,List.nil_append,List.cons_append]
      ·show (o ++ [(k,f)] ++ [z]).length ≤ 2 * (i + 1);simp only [List.length_append,List.length_singleton];omega
      ·show e.length - (i + 1) < e.length - i;omega
      ·exact gw44
    ·have hs:=sgn_eq hc
     rw [if_neg (by omega),if_pos hc] at heq
     by_cases h0:mP (z.1 + k) = 0
     ·have hke:keepX (mP (z.1 + k),z.2) = []:=by unfold keepX;rw [if_pos h0]
      rw [hke] at heq
      refine gw45 (Y12 i1 i2 hg hw hs h0 hff hzz hab q1 q2 (Yp q3 q4)) ?_
      refine qW.on (i + 1,true,o) ⟨⟨h,?_,?_⟩,?_⟩ ?_
      ·show o ++ putX k f true (e.drop (i + 1)) = _
       rw [← hR,← heq];simp only [List.append_assoc,List.nil_append,List.cons_append]
      ·show (o).length ≤ 2 * (i + 1);omega
      ·show e.length - (i + 1) < e.length - i;omega
      ·exact gw44
     ·have hm0:(mP (z.1 + k) != 0) = true:=bne_iff_ne.2 h0
      have hke:keepX (mP (z.1 + k),z.2) = [(mP (z.1 + k),z.2)]:=by unfold keepX;rw [if_neg h0]
      rw [hke] at heq
      refine gw45 (Y12 i1 i2 hg hw hs hm0 hff hzz hab q1 q2 (Yp q3 q4)) ?_
      refine qW.on (i + 1,true,o ++ [(mP (z.1 + k),z.2)]) ⟨⟨h,?_,?_⟩,?_⟩ ?_
      ·show o ++ [(mP (z.1 + k),z.2)] ++ putX k f true (e.drop (i + 1)) = _
       rw [← hR,← heq];simp only [List.append_assoc,List.nil_append,List.cons_append]
      ·show (o ++ [(mP (z.1 + k),z.2)]).length ≤ 2 * (i + 1);simp only [List.length_append,List.length_singleton];omega
      ·show e.length - (i + 1) < e.length - i;omega
      ·exact gw44
    ·have hs:=sgn_gt hc
     rw [if_neg (by omega),if_neg (by omega)] at heq
     by_cases h0:z.1 = 0
     ·have hz0:(z.1 != 0) = false:=bne_eq_false_iff_eq.2 h0
      have hke:keepX z = []:=by unfold keepX;rw [if_pos h0]
      rw [hke] at heq
      refine gw45 (Y12 i1 i2 hg hw hs hz0 hff hzz hab q1 q2 (Yp q3 q4)) ?_
      refine qW.on (i + 1,false,o) ⟨⟨h,?_,?_⟩,?_⟩ ?_
      ·show o ++ putX k f false (e.drop (i + 1)) = _
       rw [← hR,← heq];simp only [List.append_assoc,List.nil_append,List.cons_append]
      ·show (o).length ≤ 2 * (i + 1);omega
      ·show e.length - (i + 1) < e.length - i;omega
      ·exact gw44
     ·have hz0:(z.1 != 0) = true:=bne_iff_ne.2 h0
      have hke:keepX z = [z]:=by unfold keepX;rw [if_neg h0]
      rw [hke] at heq
      refine gw45 (Y12 i1 i2 hg hw hs hz0 hff hzz hab q1 q2 (Yp q3 q4)) ?_
      refine qW.on (i + 1,false,o ++ [z]) ⟨⟨h,?_,?_⟩,?_⟩ ?_
      ·show o ++ [z] ++ putX k f false (e.drop (i + 1)) = _
       rw [← hR,← heq];simp only [List.append_assoc,List.nil_append,List.cons_append]
      ·show (o ++ [z]).length ≤ 2 * (i + 1);simp only [List.length_append,List.length_singleton];omega
      ·show e.length - (i + 1) < e.length - i;omega
      ·exact gw44
  ·have i1:((i:Int) < (e.length:Int)) = False:=eq_false (by omega)
   obtain rfl:i = e.length:=by omega
   refine gw47 i1 ?_
   refine qW.out (d,o) ⟨Nat.le_refl _,heq,hlen⟩ ?_
   exact gw7 Y0
 ·rintro ⟨d,o⟩ ⟨_,heq,hlen⟩
  simp only at heq hlen ⊢
  rw [List.drop_length] at heq
  have q1:=jI (n:=o.length + 1) (by omega)
  have q2:=jH (n:=o.length + 1) (c:=32) (by omega) (by omega)
  cases d with
  | true =>
   have hp:putX k f false e = o:=by rw [← heq];simp [putX]
   rw [hp]
   refine gw41 Y0 ?_
   exact gw2
  | false =>
   have hp:putX k f false e = o ++ [(k,f)]:=by rw [← heq];rfl
   rw [hp]
   refine gw48 (Y3 hff q1 q2) ?_
   exact gw49
def addX (d:Elt):Elt→Elt
 | M => M.foldl (fun a q => putXX a q.1 q.2) d
theorem addX_snoc (d M:Elt) (q:Int × List (List Int)):addX d (M ++ [q]) = putXX (addX d M) q.1 q.2:=by
 unfold addX;rw [List.foldl_append];rfl
theorem addX_ok:∀ {M d:Elt},OkX d→(∀ q ∈ M,(0 ≤ q.1∧q.1 < 10007)∧SmF q.2)→OkX (addX d M)
 | [],d,hd,_ => hd
 | q :: M,d,hd,hM => by
  obtain ⟨h1,h2⟩:=hM q (by simp)
  exact addX_ok (M:=M) (putXX_ok hd h1 h2) (fun z hz => hM z (by simp [hz]))
theorem addX_len:∀ (M d:Elt),(addX d M).length ≤ d.length + M.length
 | [],d => Nat.le_refl _
 | q :: M,d => by
  have h1:=addX_len M (putXX d q.1 q.2)
  have h2:=putXX_len d q.1 q.2
  show (addX (putXX d q.1 q.2) M).length ≤ _
  simp only [List.length_cons];omega
theorem a_l06AddX (d e:Elt) (k:Int) (hd:OkX d) (he:OkE e) (hk:0 ≤ k∧k < 10007) (hl:d.length + e.length ≤ 100000):AFn Tryz.prog 71 [[.sl 2 (d.map ePt)],[.sl 2 (e.map ePt)],eI k] (· = [.val (.sl 2 ((addX d (mulE k e)).map ePt))]):=by
 have hml:(mulE k e).length = e.length:=by unfold mulE;simp
 refine AFn.of_runs (qQ 31) Tryz.func71 rfl rfl rfl gz ?_
 have hres:Tryz.f71.results.toList = [.tmp 6]:=rfl
 have hrts:Tryz.f71.resultTypes.toList = [50]:=rfl
 simp only [qV,qU,eL,eI,eLL,eB,Nat.zero_add,Nat.reduceAdd]
 intro M
 refine qJ.of ?_
 refine gw50 ?_
 refine qJ.loop (β:=Nat) (γ:=Unit) (fun i => ⟨[(1,.c (.val (.sl 2 (e.map ePt)))),(2,.c (.val (.int k))),(7,.c (.val (.sl 2 ((addX d ((mulE k e).take i)).map ePt)))),(8,.c (.val (.int i)))],[]⟩) (fun i => i ≤ e.length) (fun i => e.length - i)
  (fun _ => ⟨[(7,.c (.val (.sl 2 ((addX d (mulE k e)).map ePt))))],[]⟩) (fun _ => True) 0 (Nat.zero_le _) ?_ ?_ ?_
 ·rw [List.take_zero,show addX d [] = d from rfl]
  exact gw7 Y0
 ·intro i hi
  have hi:i ≤ e.length:=hi
  have hw:=jW (n:=i) (by omega)
  by_cases h:i < e.length
  ·have i1:((i:Int) < (e.length:Int)) = True:=eq_true (by omega)
   have i2:((0:Int) ≤ (i:Int)) = True:=eq_true (by omega)
   obtain ⟨z,hz⟩:∃ z,z = e[i]:=⟨_,rfl⟩
   obtain ⟨⟨hz1,hz2⟩,hz3⟩:=he e[i] (List.getElem_mem _)
   have hg:(e.map ePt)[i]? = some [.int z.1,.sl 1 (z.2.map eL)]:=by rw [qN h,hz];rfl
   rw [← hz] at hz1 hz2 hz3
   have hm:=vJ k z.1 (by have:=vN hk ⟨show 0 ≤ z.1 by omega,hz2⟩;omega)
   have hsub:∀ q ∈ (mulE k e).take i,(0 ≤ q.1∧q.1 < 10007)∧SmF q.2:=fun q hq => mulE_ok he q (List.mem_of_mem_take hq)
   have hput:=a_l06PutX (addX d ((mulE k e).take i)) (mP (k * z.1)) z.2 (by
    have:=addX_len ((mulE k e).take i) d
    rw [List.length_take] at this;omega) (addX_ok hd hsub) (jO _) hz3
   have hst:addX d ((mulE k e).take (i + 1)) = putXX (addX d ((mulE k e).take i)) (mP (k * z.1)) z.2:=by
    have hi':i < (mulE k e).length:=by rw [hml];exact h
    have hgm:(mulE k e)[i]'hi' = (mP (k * z.1),z.2):=by rw [hz];exact List.getElem_map _
    rw [List.take_succ_eq_append_getElem hi',addX_snoc,hgm]
   simp only [eI,eLL] at hm hput
   refine gw51 (Y4 i1 i2 hg hw) ?_
   refine qW.on (i + 1) ⟨h,by omega⟩ ?_
   rw [hst]
   exact gw7 Y0
  ·have i1:((i:Int) < (e.length:Int)) = False:=eq_false (by omega)
   obtain rfl:i = e.length:=by omega
   rw [List.take_of_length_le (by rw [hml];exact Nat.le_refl _)]
   refine gw52 i1 ?_
   refine qW.out () trivial ?_
   exact gw7 Y0
 ·rintro _ _
  refine gw50 ?_
  exact gw2
def fIdx {α:Type} (p:α→Bool):List α→Option Nat
 | [] => none
 | x :: xs => if p x then some 0 else (fIdx p xs).map (· + 1)
def idxI (o:Option Nat):Int:=match o with|some i => i|none => -1
theorem qT0 {α:Type} {p:α→Bool}:∀ {xs:List α},fIdx p xs = none ↔ ∀ x ∈ xs,p x = false
 | [] => by simp [fIdx]
 | x :: xs => by
  unfold fIdx
  by_cases h:p x = true
  ·simp [h]
  ·have h':p x = false:=by simpa using h
   simp only [h,Bool.false_eq_true,if_false,Option.map_eq_none_iff,qT0 (xs:=xs)]
   simp [h']
theorem fIdx_some {α:Type} {p:α→Bool}:∀ {xs:List α} {i:Nat},fIdx p xs = some i→∃ h:i < xs.length,p xs[i] = true∧∀ x ∈ xs.take i,p x = false
 | x :: xs,i,h => by
  unfold fIdx at h
  by_cases hx:p x = true
  ·rw [if_pos hx] at h;cases h
   exact ⟨by simp,hx,by simp⟩
  ·rw [if_neg hx] at h
   obtain ⟨j,hj,rfl⟩:=map_some h
   obtain ⟨h1,h2,h3⟩:=fIdx_some hj
   refine ⟨by simpa using h1,h2,fun y hy => ?_⟩
   rw [List.take_succ_cons,List.mem_cons] at hy
   rcases hy with rfl|hy
   ·simpa using hx
   ·exact h3 y hy
theorem fIdx_at {α:Type} {p:α→Bool}:∀ {xs:List α} {i:Nat} (h:i < xs.length),p xs[i] = true→(∀ x ∈ xs.take i,p x = false)→fIdx p xs = some i
 | x :: xs,0,_,h1,_ => by
  have h1:p x = true:=h1
  unfold fIdx;rw [if_pos h1]
 | x :: xs,i + 1,h,h1,h2 => by
  unfold fIdx
  have hx:p x = false:=h2 x (by simp)
  rw [if_neg (by simp [hx]),fIdx_at (xs:=xs) (i:=i) (by simpa using h) h1 (fun y hy => h2 y (by simp [hy]))]
  rfl
def keepF {α:Type} (p:α→Bool) (xs:List α):List α:=xs.filter fun x => !p x
end Go.Proofs.YtedgfkpfhonlpaaGreat
