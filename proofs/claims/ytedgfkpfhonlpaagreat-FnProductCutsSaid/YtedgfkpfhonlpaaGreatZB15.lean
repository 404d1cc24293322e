/- Lemmas (15). -/
import Derived.Lib.AppendZeros
import Derived.Test.YtedgfkpfhonlpaaGreatZB0
import Derived.Test.YtedgfkpfhonlpaaGreatZB4
import Derived.Test.YtedgfkpfhonlpaaGreatZB5
import Derived.Test.YtedgfkpfhonlpaaGreatZB6
import Derived.Test.YtedgfkpfhonlpaaGreatZB7
import Derived.Test.YtedgfkpfhonlpaaGreatZB8
import Derived.Test.YtedgfkpfhonlpaaGreatZB9
import Derived.Test.YtedgfkpfhonlpaaGreatZB11
import Derived.Test.YtedgfkpfhonlpaaGreatZB13
import Derived.Test.YtedgfkpfhonlpaaGreatZB14
set_option maxHeartbeats 16000000
set_option maxRecDepth 100000
set_option linter.unusedSimpArgs false
set_option linter.unusedVariables false
namespace Go.Proofs.YtedgfkpfhonlpaaGreat
open Go.RowKit
def dforF (code:List Int):Nat→Nat→(Nat × Int)→List (List Int)→List (List Int) × (Nat × Int)
 | 0,_,s,out => (out,s)
 | f + 1,left,s,out =>
  if left = 0 then (out,s) else
  let p:=drawF code s left
  if out ≠ []∧(out.getLastD []).length ≤ left then
   let c:=nxtF code p.2 3
   let t:=if c.1 = 0 then out.getLastD [] else canon p.1
   dforF code f (left - t.length) c.2 (out ++ [t])
  else dforF code f (left - (canon p.1).length) p.2 (out ++ [canon p.1])
def yI (code:List Int) (s:Nat × Int) (m:Int):List (List Int) × (Nat × Int) :=
 let n:=nxtF code s (m + 1)
 let r:=dforF code n.1.toNat n.1.toNat n.2 []
 (forest r.1,r.2)
structure FOk (n:Nat) (f:List (List Int)):Prop where
 lev:∀ t ∈ f,qU t
 can:∀ t ∈ f,canon t = t
 sum:qX f ≤ n
theorem qU.posL {t:List Int} (h:qU t):0 < t.length:=h.pos
theorem FOk.snoc {n k:Nat} {f:List (List Int)} {t:List Int} (h:FOk n f) (hl:qU t) (hc:canon t = t) (hk:t.length ≤ k):FOk (n + k) (f ++ [t]):=by
 refine ⟨fun x hx => ?_,fun x hx => ?_,?_⟩
 ·rcases List.mem_append.1 hx with hx|hx
  ·exact h.lev x hx
  ·rw [List.mem_singleton] at hx;subst hx;exact hl
 ·rcases List.mem_append.1 hx with hx|hx
  ·exact h.can x hx
  ·rw [List.mem_singleton] at hx;subst hx;exact hc
 ·have:=h.sum
  rw [vG]
  have:qX [t] = t.length:=by simp [qX]
  omega
theorem getLastL_mem {f:List (List Int)} (h:f ≠ []):f.getLastD [] ∈ f:=by
 cases f with
 | nil => exact absurd rfl h
 | cons a t => rw [List.getLastD_cons];exact (by cases t <;> simp [List.getLastD])
theorem dforF_ok {code:List Int} (hc:jW code):∀ (fu left n:Nat) {s:Nat × Int} {out:List (List Int)},FOk n out→s.1 ≤ code.length→FOk (n + left) (dforF code fu left s out).1∧(dforF code fu left s out).2.1 ≤ code.length
 | 0,left,n,s,out,h,hs => ⟨⟨h.lev,h.can,by have:=h.sum;show qX out ≤ _;omega⟩,hs⟩
 | fu + 1,left,n,s,out,h,hs => by
  have h':FOk (n + left) out:=⟨h.lev,h.can,by have:=h.sum;omega⟩
  unfold dforF
  split
  ·exact ⟨h',hs⟩
  ·rename_i hl0
   obtain ⟨h1,h2⟩:=qN0 hc (m:=left) hs
   have h3:=drawF_len hc (m:=left) hs (by omega)
   have hlev:=vQ h1.lev
   have hlen:=qJ0 h1.lev
   have hidem:=qS0 h1.lev
   obtain ⟨p,hp⟩:∃ p,p = drawF code s left:=⟨_,rfl⟩
   rw [← hp] at h1 h2 h3 hlev hlen hidem ⊢
   simp only
   have h3:p.1.length ≤ left:=by omega
   have key:∀ (t:List Int) (s':Nat × Int),qU t→canon t = t→t.length ≤ left→s'.1 ≤ code.length→FOk (n + left) (dforF code fu (left - t.length) s' (out ++ [t])).1∧(dforF code fu (left - t.length) s' (out ++ [t])).2.1 ≤ code.length:=by
    intro t s' k1 k2 k3 k4
    have:=dforF_ok hc fu (left - t.length) (n + t.length) (h.snoc k1 k2 (Nat.le_refl _)) k4
    rw [show n + t.length + (left - t.length) = n + left by omega] at this
    exact this
   split
   ·rename_i ho
    have hm:=getLastL_mem ho.1
    have h4:=jU (n:=3) h2
    split
    ·exact key _ _ (h.lev _ hm) (h.can _ hm) ho.2 h4
    ·exact key _ _ hlev hidem (by omega) h4
   ·exact key _ _ hlev hidem (by omega) h2
theorem lastL_get {f:List (List Int)} (h:f ≠ []):Option.map eL f.getLast? = some [.sl 1 ((f.getLastD []).map eI)]:=by
 cases f with
 | nil => exact absurd rfl h
 | cons a t => rw [List.getLast?_cons,List.getLastD_cons,← List.getLastD_eq_getLast?];rfl
theorem qK0 {f:List (List Int)} (h:∀ t ∈ f,qU t):f.length ≤ qX f:=by
 induction f with
 | nil => exact Nat.le_refl _
 | cons a f ih =>
  have h1:=(h a (by simp)).pos
  have h2:=ih (fun t ht => h t (by simp [ht]))
  have e:qX (a :: f) = a.length + qX f:=by simp [qX]
  rw [e,List.length_cons];omega
def vU (code:List Int) (s:Nat × Int) (m:Int):List Res × (Nat × Int):=([.own 1 ((yI code s m).1.map eL) true],(yI code s m).2)
theorem kB0 {code:List Int} (hc:jW code) (hl:code.length ≤ 1000000000):xT Tryz.prog 125 code (drw1 (vU code)):=by
 refine drw1_of fun s m hs hm1 hm2 => ?_
 have hpin:=kP hc hl
 have hdw:=(p_l03Draw hc hl).ok
 have hw0:w64 (m + 1) = m + 1:=qE (by omega)
 have hdr:=yG code s (m + 1) hs
 have hbd:=jM hc s (m + 1)
 have hat:=jU (n:=m + 1) hs
 unfold vU yI
 obtain ⟨⟨nn,s1⟩,hp⟩:∃ p,p = nxtF code s (m + 1):=⟨_,rfl⟩
 rw [← hp] at hdr hbd hat ⊢
 simp only [eI] at hdr hbd hat ⊢
 obtain ⟨n,rfl⟩:∃ n:Nat,nn = n:=⟨nn.toNat,by omega⟩
 have hn:n ≤ 1000:=by omega
 rw [Int.toNat_natCast]
 have hok:=(dforF_ok hc n n 0 (s:=s1) (out:=[]) ⟨by simp,by simp,by simp [qX]⟩ hat).1
 obtain ⟨Z,hZ⟩:∃ Z,Z = dforF code n n s1 []:=⟨_,rfl⟩
 rw [← hZ] at hok ⊢
 have hso:=a_l03Sort Z.1 (by
  have:=qK0 (f:=Z.1) hok.lev
  have:=hok.sum
  omega) (fun b hb => by
  have:=jL hb
  have:=hok.sum
  omega)
 simp only [eLL,eL] at hso
 refine AEp.of_runs (qQ 60) Tryz.func125 rfl rfl rfl (fun _ => rfl) gz ?_
 have hres:Tryz.f125.results.toList = [.tmp 4]:=rfl
 have hrts:Tryz.f125.resultTypes.toList = [36]:=rfl
 simp only [List.length_cons,List.length_nil,jF,if_true,qV,qT,eL,eI,eLL,eB,Nat.zero_add,Nat.reduceAdd]
 intro M og cap
 refine qJ.of ?_
 repeat' (first|with_reducible (first|refine Q1 ?_|refine Q2 ?_|refine Q3 ?_|refine Q4 ?_|refine Q5 ?_|refine Q6 ?_|refine Q7 ?_|refine Q8 ?_|refine Q9 ?_|refine Qa ?_|refine Qb ?_|refine Qc ?_|refine Qd ?_|refine Qe ?_|refine Qf ?_|refine QO ?_|refine QV 8 ?_|refine QY 8 ?_)|with_reducible ((first|apply QS (qQ 60) (Tab.none.pin 82 (nxtE code) hpin)|apply QC);refine QW ?_;simp only [Zg,Zi,seval,reduceCtorEq,Nat.reduceEqDiff,hdr,nxtE,hw0];rfl))
 refine qJ.loop (β:=Nat × Nat × (Nat × Int) × List (List Int)) (γ:=Unit) (fun x => ⟨[(0,.optr 0 0 0),(5,.c (.own 5 x.2.2.2.length)),(6,.c (.val (.int x.2.1)))],[(0,.pin og cap 3 [srcD code x.2.2.1]),(5,.row 1 (x.2.2.2.map eL) false)]⟩)
  (fun x => x.2.1 ≤ x.1∧x.2.1 ≤ n∧x.2.2.1.1 ≤ code.length∧FOk (n - x.2.1) x.2.2.2∧dforF code x.1 x.2.1 x.2.2.1 x.2.2.2 = Z) (fun x => x.2.1)
  (fun _ => ⟨[(0,.optr 0 0 0),(5,.c (.own 5 Z.1.length))],[(0,.pin og cap 3 [srcD code Z.2]),(5,.row 1 (Z.1.map eL) false)]⟩) (fun _ => True) (n,n,s1,[]) ⟨Nat.le_refl _,Nat.le_refl _,hat,⟨by simp,by simp,by simp [qX]⟩,hZ.symm⟩ ?_ ?_ ?_
 ·(repeat' (first|exact Qn|((with_reducible refine Qr ?_ ?_);focus first|with_reducible rfl|(simp only [Zz,Nat.reduceBEq,List.map_nil,List.length_nil];done)|rfl)|((with_reducible apply Qj);rfl)|((with_reducible refine Qw ?_ ?_);(focus first|with_reducible rfl|(simp only [Zv,List.map_nil,List.length_nil];done));first|exact id|exact nofun|exact fun _=>rfl)))
  all_goals first|exact ⟨rfl,rfl⟩|exact ⟨rfl,rfl,id⟩|exact ⟨rfl,rfl,rfl,rfl⟩|exact ⟨rfl,rfl,fun h => nomatch h⟩
 ·rintro ⟨k,left,s,out⟩ ⟨hlk,hln,hs,hfo,hdz⟩
  simp only at hlk hln hs hfo hdz
  by_cases h0:0 < left
  rotate_left
  ·obtain rfl:left = 0:=by omega
   have e:dforF code k 0 s out = (out,s):=by cases k <;> rfl
   rw [e] at hdz
   have i1:(((0:Nat):Int) > 0) = False:=eq_false (by omega)
   rw [← hdz]
   repeat' (first|with_reducible (first|refine Q1 ?_|refine Q2 ?_|refine Q3 ?_|refine Q4 ?_|refine Q5 ?_|refine Q6 ?_|refine Q7 ?_|refine Q8 ?_|refine Q9 ?_|refine Qa ?_|refine Qb ?_|refine Qc ?_|refine Qd ?_|refine Qe ?_|refine Qf ?_|refine QO ?_|refine QV 8 ?_|refine QY 8 ?_)|with_reducible ((first|apply QS (qQ 60) Tab.none|apply QC);refine QW ?_;simp only [Zg,Zi,seval,reduceCtorEq,Nat.reduceEqDiff,i1];rfl))
   refine qY.out () trivial ?_
   (repeat' (first|exact Qn|((with_reducible refine Qr ?_ ?_);focus first|with_reducible rfl|(simp only [Zz,Nat.reduceBEq];done)|rfl)|((with_reducible apply Qj);rfl)|((with_reducible refine Qw ?_ ?_);(focus first|with_reducible rfl|(simp only [Zv];done));first|exact id|exact nofun|exact fun _=>rfl)))
   all_goals first|exact ⟨rfl,rfl⟩|exact ⟨rfl,rfl,id⟩|exact ⟨rfl,rfl,rfl,rfl⟩
  obtain ⟨k,rfl⟩:∃ j,k = j + 1:=⟨k - 1,by omega⟩
  have i1:((left:Int) > 0) = True:=eq_true (by omega)
  have hdt:drwG code (drw1 (drawG code)) 3 [srcD code s] [[.int (left:Int)]] = some ([.own 1 ((drawF code s left).1.map eI) true],[srcD code (drawF code s left).2]):=vJ hs ⟨by omega,by omega⟩
  obtain ⟨g1,g2⟩:=qN0 hc (m:=left) hs
  have g3:=drawF_len hc (m:=left) hs (by omega)
  have gl:=vQ g1.lev
  have gn:=qJ0 g1.lev
  have gi:=qS0 g1.lev
  have hca:=yI0 (drawF code s left).1 g1.lev (by omega)
  have hds:dforF code (k + 1) left s out = (if out ≠ []∧(out.getLastD []).length ≤ left then
    dforF code k (left - (if (nxtF code (drawF code s left).2 3).1 = 0 then out.getLastD [] else canon (drawF code s left).1).length) (nxtF code (drawF code s left).2 3).2 (out ++ [if (nxtF code (drawF code s left).2 3).1 = 0 then out.getLastD [] else canon (drawF code s left).1])
   else dforF code k (left - (canon (drawF code s left).1).length) (drawF code s left).2 (out ++ [canon (drawF code s left).1])):=by
   show (if left = 0 then (out,s) else _) = _
   rw [if_neg (by omega)]
  rw [hds] at hdz
  obtain ⟨⟨p,s2⟩,hp2⟩:∃ q,q = drawF code s left:=⟨_,rfl⟩
  rw [← hp2] at hdt g1 g2 g3 gl gn gi hca hdz
  simp only at hdt g1 g2 g3 gl gn gi hca hdz
  obtain ⟨ct,hct⟩:∃ ct,ct = canon p:=⟨_,rfl⟩
  rw [← hct] at gl gn gi hca hdz
  have hol:=qK0 (f:=out) hfo.lev
  have hos:=hfo.sum
  have hom:(out.map eL).length = out.length:=List.length_map _
  have q1:=jJ (n:=out.length + 1) (by omega)
  have q2:=qP (n:=out.length + 1) (c:=24) (by omega) (by omega)
  have hwl:w64 (((out.length + 1:Nat):Int) - 1) = (out.length:Int):=by rw [qE (by omega)];omega
  have k2:((0:Int) ≤ (out.length:Int)) = True:=eq_true (by omega)
  have k3:((out.length:Int) < ((out.length + 1:Nat):Int)) = True:=eq_true (by omega)
  have key:∀ (t:List Int) (s':Nat × Int),qU t→canon t = t→t.length ≤ left→s'.1 ≤ code.length→dforF code k (left - t.length) s' (out ++ [t]) = Z →
    (left - t.length ≤ k∧left - t.length ≤ n∧s'.1 ≤ code.length∧FOk (n - (left - t.length)) (out ++ [t])∧dforF code k (left - t.length) s' (out ++ [t]) = Z)∧left - t.length < left:=fun t s' h1 h2 h3 h4 h5 => by
   have:=h1.posL
   have hsn:=hfo.snoc h1 h2 (Nat.le_refl t.length)
   refine ⟨⟨by omega,by omega,h4,?_,h5⟩,by omega⟩
   rw [show n - (left - t.length) = n - left + t.length by omega]
   exact hsn
  have hgt:∀ t:List Int,(out.map eL ++ [[D.sl 1 (t.map eI)]])[out.length]? = some [D.sl 1 (t.map eI)]:=fun t => by
   rw [List.getElem?_append_right (by rw [hom];exact Nat.le_refl _),hom,Nat.sub_self];rfl
  have hgtl:∀ t:List Int,(out.map eL ++ [[D.sl 1 (t.map eI)]]).length = out.length + 1:=fun t => by rw [List.length_append,hom];rfl
  simp only [eL] at hca
  by_cases ho:out = []
  ·subst ho
   rw [if_neg (fun h => h.1 rfl)] at hdz
   obtain ⟨kk,kl⟩:=key ct s2 gl gi (by omega) g2 hdz
   have z1:(((0:Nat):Int) > 0) = False:=eq_false (by omega)
   have hcl:(ct.map eI).length = ct.length:=List.length_map _
   have hw6:w64 ((left:Int) - (ct.length:Int)) = ((left - ct.length:Nat):Int):=by rw [qE (by omega)];omega
   have u1:w64 (1 - 1) = 0:=by rw [qE (by omega)];rfl
   have u2:((0:Int) ≤ 0) = True:=eq_true (by omega)
   have u3:((0:Int) < 1) = True:=eq_true (by omega)
   have t0:(0:Int).toNat = 0:=rfl
   have u0:w64 0 = 0:=by rw [qE (by omega)]
   have u1':w64 (((1:Nat):Int) - 1) = 0:=by rw [qE (by omega)];rfl
   have u3':((0:Int) < ((1:Nat):Int)) = True:=eq_true (by omega)
   repeat' (first|with_reducible (first|refine Q1 ?_|refine Q2 ?_|refine Q3 ?_|refine Q4 ?_|refine Q5 ?_|refine Q6 ?_|refine Q7 ?_|refine Q8 ?_|refine Q9 ?_|refine Qa ?_|refine Qb ?_|refine Qc ?_|refine Qd ?_|refine Qe ?_|refine Qf ?_|refine QO ?_|refine QV 8 ?_|refine QY 8 ?_)|with_reducible ((first|apply QS (qQ 60) ((((Tab.none.pin 82 (nxtE code) hpin).pin 126 (drwE code (drw1 (drawG code))) hdw).at' 186 hca))|apply QC);refine QW ?_;simp only [Zg,Zi,seval,reduceCtorEq,Nat.reduceEqDiff,hdt,nxtE,drwE,i1,z1,q1,q2,hcl,hw6,u0,u1,u1',u2,u3,u3',t0];rfl))
   refine qY.on (k,left - ct.length,s2,[ct]) ⟨kk,kl⟩ ?_
   (repeat' (first|exact Qn|((with_reducible refine Qr ?_ ?_);focus first|with_reducible rfl|(simp only [Zz,Nat.reduceBEq,List.map_cons,List.map_nil,eL,List.length_singleton];done)|rfl)|((with_reducible apply Qj);rfl)|((with_reducible refine Qw ?_ ?_);(focus first|with_reducible rfl|(simp only [Zv,List.map_cons,List.map_nil,eL,List.length_singleton];done));first|exact id|exact nofun|exact fun _=>rfl)))
   all_goals first|exact ⟨rfl,rfl⟩|exact ⟨rfl,rfl,id⟩|exact ⟨rfl,rfl,rfl,rfl⟩|exact ⟨rfl,rfl,fun h => nomatch h⟩
  have hop:0 < out.length:=List.length_pos_iff.2 ho
  have z1:((out.length:Int) > 0) = True:=eq_true (by omega)
  have hlm:=getLastL_mem ho
  have hll:=jL hlm
  have hlv:=hfo.lev _ hlm
  have hlc:=hfo.can _ hlm
  have hgl:(out.map eL)[out.length - 1]? = some [.sl 1 ((out.getLastD []).map eI)]:=by
   rw [List.getElem?_map,← List.getLast?_eq_getElem?]
   exact lastL_get ho
  obtain ⟨la,hla⟩:∃ la,la = out.getLastD []:=⟨_,rfl⟩
  rw [← hla] at hll hlv hlc hgl hdz
  have hlaM:(la.map eI).length = la.length:=List.length_map _
  have w5:w64 ((out.length:Int) - 1) = ((out.length - 1:Nat):Int):=by rw [qE (by omega)];omega
  have k5:((0:Int) ≤ ((out.length - 1:Nat):Int)) = True:=eq_true (by omega)
  have k6:(((out.length - 1:Nat):Int) < (out.length:Int)) = True:=eq_true (by omega)
  have hcl:(ct.map eI).length = ct.length:=List.length_map _
  have tail:∀ (t:List Int) (s':Nat × Int),t.length ≤ left→(t.map eI).length = t.length∧w64 ((left:Int) - (t.length:Int)) = ((left - t.length:Nat):Int):=fun t s' h => ⟨List.length_map _,by rw [qE (by omega)];omega⟩
  by_cases hle:la.length ≤ left
  rotate_left
  ·rw [if_neg (fun h => hle h.2)] at hdz
   obtain ⟨kk,kl⟩:=key ct s2 gl gi (by omega) g2 hdz
   have z2:((la.length:Int) ≤ (left:Int)) = False:=eq_false (by omega)
   obtain ⟨_,hw6⟩:=tail ct s2 (by omega)
   repeat' (first|with_reducible (first|refine Q1 ?_|refine Q2 ?_|refine Q3 ?_|refine Q4 ?_|refine Q5 ?_|refine Q6 ?_|refine Q7 ?_|refine Q8 ?_|refine Q9 ?_|refine Qa ?_|refine Qb ?_|refine Qc ?_|refine Qd ?_|refine Qe ?_|refine Qf ?_|refine QO ?_|refine QV 8 ?_|refine QY 8 ?_)|with_reducible ((first|apply QS (qQ 60) ((((Tab.none.pin 82 (nxtE code) hpin).pin 126 (drwE code (drw1 (drawG code))) hdw).at' 186 hca))|apply QC);refine QW ?_;simp only [Zg,Zi,seval,reduceCtorEq,Nat.reduceEqDiff,hdt,nxtE,drwE,i1,z1,z2,q1,q2,hcl,hw6,hom,w5,k5,k6,hgl,hlaM,hwl,k2,k3,hgt,hgtl,Int.toNat_natCast];rfl))
   refine qY.on (k,left - ct.length,s2,out ++ [ct]) ⟨kk,kl⟩ ?_
   (repeat' (first|exact Qn|((with_reducible refine Qr ?_ ?_);focus first|with_reducible rfl|(simp only [Zz,Nat.reduceBEq,List.map_append,List.map_cons,List.map_nil,eL,List.length_append,List.length_singleton];done)|rfl)|((with_reducible apply Qj);rfl)|((with_reducible refine Qw ?_ ?_);(focus first|with_reducible rfl|(simp only [Zv,List.map_append,List.map_cons,List.map_nil,eL,List.length_append,List.length_singleton];done));first|exact id|exact nofun|exact fun _=>rfl)))
   all_goals first|exact ⟨rfl,rfl⟩|exact ⟨rfl,rfl,id⟩|exact ⟨rfl,rfl,rfl,rfl⟩|exact ⟨rfl,rfl,fun h => nomatch h⟩
  ·rw [if_pos ⟨ho,hle⟩] at hdz
   have z2:((la.length:Int) ≤ (left:Int)) = True:=eq_true (by omega)
   have hd3:=yG code s2 3 g2
   have ha3:=jU (n:=3) g2
   obtain ⟨⟨cc,s3⟩,hc3⟩:∃ q,q = nxtF code s2 3:=⟨_,rfl⟩
   rw [← hc3] at hd3 ha3 hdz
   simp only [eI] at hd3 ha3 hdz
   by_cases hc0:cc = 0
   ·subst hc0
    rw [if_pos rfl] at hdz
    obtain ⟨kk,kl⟩:=key la s3 hlv hlc hle ha3 hdz
    obtain ⟨_,hw6⟩:=tail la s3 hle
    have how:=a_l01Own la (by omega)
    simp only [eL] at how
    repeat' (first|with_reducible (first|refine Q1 ?_|refine Q2 ?_|refine Q3 ?_|refine Q4 ?_|refine Q5 ?_|refine Q6 ?_|refine Q7 ?_|refine Q8 ?_|refine Q9 ?_|refine Qa ?_|refine Qb ?_|refine Qc ?_|refine Qd ?_|refine Qe ?_|refine Qf ?_|refine QO ?_|refine QV 8 ?_|refine QY 8 ?_)|with_reducible ((first|apply QS (qQ 60) (((((Tab.none.pin 82 (nxtE code) hpin).pin 126 (drwE code (drw1 (drawG code))) hdw).at' 186 hca).at' 133 how))|apply QC);refine QW ?_;simp only [Zg,Zi,seval,reduceCtorEq,Nat.reduceEqDiff,hdt,hd3,nxtE,drwE,i1,z1,z2,q1,q2,hcl,hw6,hom,w5,k5,k6,hgl,hlaM,hwl,k2,k3,hgt,hgtl,Int.toNat_natCast];rfl))
    refine qY.on (k,left - la.length,s3,out ++ [la]) ⟨kk,kl⟩ ?_
    (repeat' (first|exact Qn|((with_reducible refine Qr ?_ ?_);focus first|with_reducible rfl|(simp only [Zz,Nat.reduceBEq,List.map_append,List.map_cons,List.map_nil,eL,List.length_append,List.length_singleton];done)|rfl)|((with_reducible apply Qj);rfl)|((with_reducible refine Qw ?_ ?_);(focus first|with_reducible rfl|(simp only [Zv,List.map_append,List.map_cons,List.map_nil,eL,List.length_append,List.length_singleton];done));first|exact id|exact nofun|exact fun _=>rfl)))
    all_goals first|exact ⟨rfl,rfl⟩|exact ⟨rfl,rfl,id⟩|exact ⟨rfl,rfl,rfl,rfl⟩|exact ⟨rfl,rfl,fun h => nomatch h⟩
   ·rw [if_neg hc0] at hdz
    obtain ⟨kk,kl⟩:=key ct s3 gl gi (by omega) ha3 hdz
    obtain ⟨_,hw6⟩:=tail ct s3 (by omega)
    have bc0:(cc == 0) = false:=by simp [hc0]
    repeat' (first|with_reducible (first|refine Q1 ?_|refine Q2 ?_|refine Q3 ?_|refine Q4 ?_|refine Q5 ?_|refine Q6 ?_|refine Q7 ?_|refine Q8 ?_|refine Q9 ?_|refine Qa ?_|refine Qb ?_|refine Qc ?_|refine Qd ?_|refine Qe ?_|refine Qf ?_|refine QO ?_|refine QV 8 ?_|refine QY 8 ?_)|with_reducible ((first|apply QS (qQ 60) ((((Tab.none.pin 82 (nxtE code) hpin).pin 126 (drwE code (drw1 (drawG code))) hdw).at' 186 hca))|apply QC);refine QW ?_;simp only [Zg,Zi,seval,reduceCtorEq,Nat.reduceEqDiff,hdt,hd3,nxtE,drwE,i1,z1,z2,bc0,q1,q2,hcl,hw6,hom,w5,k5,k6,hgl,hlaM,hwl,k2,k3,hgt,hgtl,Int.toNat_natCast];rfl))
    refine qY.on (k,left - ct.length,s3,out ++ [ct]) ⟨kk,kl⟩ ?_
    (repeat' (first|exact Qn|((with_reducible refine Qr ?_ ?_);focus first|with_reducible rfl|(simp only [Zz,Nat.reduceBEq,List.map_append,List.map_cons,List.map_nil,eL,List.length_append,List.length_singleton];done)|rfl)|((with_reducible apply Qj);rfl)|((with_reducible refine Qw ?_ ?_);(focus first|with_reducible rfl|(simp only [Zv,List.map_append,List.map_cons,List.map_nil,eL,List.length_append,List.length_singleton];done));first|exact id|exact nofun|exact fun _=>rfl)))
    all_goals first|exact ⟨rfl,rfl⟩|exact ⟨rfl,rfl,id⟩|exact ⟨rfl,rfl,rfl,rfl⟩|exact ⟨rfl,rfl,fun h => nomatch h⟩
 ·rintro _ _
  repeat' (first|with_reducible (first|refine Q1 ?_|refine Q2 ?_|refine Q3 ?_|refine Q4 ?_|refine Q5 ?_|refine Q6 ?_|refine Q7 ?_|refine Q8 ?_|refine Q9 ?_|refine Qa ?_|refine Qb ?_|refine Qc ?_|refine Qd ?_|refine Qe ?_|refine Qf ?_|refine QO ?_|refine QV 8 ?_|refine QY 8 ?_)|with_reducible ((first|apply QS (qQ 60) (Tab.none.at' 187 hso)|apply QC);refine QW ?_;simp only [Zg,Zi,seval,reduceCtorEq,Nat.reduceEqDiff,eL];rfl))
  (refine EndsP.mk (by simp) (rs:=?_) (ks:=?_) (xs':=?_) hres hrts ?_ ?_ ?_ ?_ ?_;rotate_left 3;(focus (simp only [Ze,Zg,Zi,seval,reduceCtorEq,Nat.reduceEqDiff];with_reducible rfl));(focus simp);(focus simp);(focus (simp only [look,Nat.reduceEqDiff,Nat.reduceBEq,if_true,if_false];rfl));focus (first|exact ⟨rfl,rfl⟩|exact ⟨rfl,rfl,rfl⟩|skip))
def RU:Rep Int where
 k:=1
 rd:=fun _ _ cs n => cs = [.int .u8 n]∧0 ≤ n∧n ≤ 255
 own:=fun _ cs n F => (cs = [.int .u8 n]∧0 ≤ n∧n ≤ 255)∧F = []
 kpos:=by decide
 rd_len:=by intro A w cs x h;rw [h.1];rfl
 rd_one:=by intro A w cs x h v hv;rw [h.1] at hv;simp at hv;subst hv;rfl
 rd_frame:=fun h _ => h
 rd_mono:=fun h _ => h
 own_rd:=fun h => h.1
 own_frame:=fun h _ => h
 own_lt:=by intro w cs x F h b hb;rw [h.2] at hb;simp at hb
abbrev RBytes:Rep (List Int):=RS RU
theorem opU8:Opens Tryz.prog RU 5:=by
 intro H enc w base spare held fuel cs x h
 obtain ⟨n,rfl,_,hw⟩:=DataW.trod_int Tryz.underlying5 h
 exact ⟨n,rfl,bounds_u8 hw⟩
theorem opBytes:Opens Tryz.prog RBytes 22:=Opens.slice Tryz.underlying22 (by kernel_rfl) opU8
theorem rdU_to {A:Nat→Prop} {w:World}:∀ {code:List Int} {ds:List Value},rdL RU A w ds code→rdL (RK 1 (by decide) (RC 0)) A w ds (code.map eU)∧jW code
 | [],_,h => ⟨h,fun c hc => nomatch hc⟩
 | c :: code,ds,⟨c1,d1,e,⟨h1,h2,h3⟩,h4⟩ => by
  obtain ⟨h5,h6⟩:=rdU_to h4
  refine ⟨⟨c1,d1,e,⟨by rw [h1];rfl,rfl,?_⟩,h5⟩,fun x hx => ?_⟩
  ·rw [h1]
   exact wQ.2 ⟨rfl,rfl⟩
  ·rcases List.mem_cons.1 hx with rfl|hx
   ·omega
   ·exact h6 x hx
theorem arg_bytes {w:World} {u:Value} {code:List Int} (h:Rd RBytes w [u] code):vZ (· < w.heap.size) w (eCode code) u∧jW code:=by
 obtain ⟨oa,cap,ds,h1,h2,h3,h4,h5,h6⟩:=h
 obtain ⟨k1,k2⟩:=rdU_to h5
 refine ⟨?_,k2⟩
 show rdV _ w u (.sl 1 (code.map eU))
 rw [yN]
 rw [List.length_map]
 exact ⟨oa,cap,ds,(List.cons.inj h1).1,h2,h3,h4,⟨0,by decide,k1⟩,h6⟩
theorem law_code {f:FuncId} (hf:∀ code:List Int,jW code→AFn Tryz.prog f [eCode code] (· = [.val (.bool true)])) (v:Value) (code:List Int) (w:World) (h:Rd RBytes w [v] code):Calls Tryz.prog f #[v] w (RetV w (.bool true)):=by
 obtain ⟨h1,h2⟩:=arg_bytes h
 exact AFn.one (fun _ _ _ h => jP.1 h) (hf code h2) (args1 h1)
theorem a_big (code:List Int):AFn Tryz.prog 10 [eCode code] (· = [.val (.bool (decide (4096 < code.length)))]):=by
 by_cases h:4096 < code.length
 ·have i1:((code.length:Int) > 4096) = True:=eq_true (by omega)
  rw [decide_eq_true h]
  refine AFn.of_runs (qQ 6) Tryz.func10 rfl rfl rfl gz ?_
  have hres:Tryz.f10.results.toList = [.tmp 2]:=rfl
  have hrts:Tryz.f10.resultTypes.toList = [4]:=rfl
  simp only [qV,qT,eL,eI,eLL,eB,Nat.zero_add,Nat.reduceAdd,eCode,dCode]
  intro M
  refine qJ.of ?_
  refine gw155 i1 ?_
  exact gw2
 ·have i1:((code.length:Int) > 4096) = False:=eq_false (by omega)
  rw [decide_eq_false h]
  refine AFn.of_runs (qQ 6) Tryz.func10 rfl rfl rfl gz ?_
  have hres:Tryz.f10.results.toList = [.tmp 2]:=rfl
  have hrts:Tryz.f10.resultTypes.toList = [4]:=rfl
  simp only [qV,qT,eL,eI,eLL,eB,Nat.zero_add,Nat.reduceAdd,eCode,dCode]
  intro M
  refine qJ.of ?_
  refine gw155 i1 ?_
  exact gw2
theorem a_mod9 (n:Int):AFn Tryz.prog 49 [eI n] (· = [.val (.int (mP n))]):=by
 have hb:=tmod_bd n
 have hw:w64 (n.tmod 10007 + 10007) = n.tmod 10007 + 10007:=qE (by omega)
 rw [← tmod_mP n]
 refine AFn.of_runs (qQ 7) Tryz.func49 rfl rfl rfl gz ?_
 have hres:Tryz.f49.results.toList = [.tmp 2]:=rfl
 have hrts:Tryz.f49.resultTypes.toList = [2]:=rfl
 simp only [qV,qT,eL,eI,eLL,eB,Nat.zero_add,Nat.reduceAdd]
 intro M
 refine qJ.of ?_
 refine gw71 hw ?_
 exact gw2
def kB (code:List Int) (s:Nat × Int) (m:Int):List (List Int) × (Nat × Int) :=
 let f:=yI code s m
 let c:=nxtF code f.2 24
 if c.1 = 0 then
  let t:=drawF code c.2 4
  (f.1 ++ [t.1],t.2)
 else if c.1 = 1 then
  let t:=xN code c.2 3
  (f.1 ++ [t.1],t.2)
 else if c.1 = 2 then ([0,1,1] :: f.1,c.2)
 else (f.1,c.2)
structure FAOk (n:Nat) (f:List (List Int)):Prop where
 sum:qX f ≤ n
 len:f.length ≤ n
theorem yZ0 {code:List Int} (hc:jW code) {s:Nat × Int} {m:Int} (hs:s.1 ≤ code.length):FOk m.toNat (yI code s m).1∧(yI code s m).2.1 ≤ code.length:=by
 have hb:=jM hc s (m + 1)
 have ha:=jU (n:=m + 1) hs
 obtain ⟨h1,h2⟩:=dforF_ok hc (nxtF code s (m + 1)).1.toNat (nxtF code s (m + 1)).1.toNat 0 (s:=(nxtF code s (m + 1)).2) (out:=[]) ⟨by simp,by simp,by simp [qX]⟩ ha
 unfold yI
 simp only
 obtain ⟨Z,hZ⟩:∃ Z,Z = dforF code (nxtF code s (m + 1)).1.toNat (nxtF code s (m + 1)).1.toNat (nxtF code s (m + 1)).2 []:=⟨_,rfl⟩
 rw [← hZ] at h1 h2 ⊢
 refine ⟨⟨fun t ht => h1.lev t (xC.1 ht),fun t ht => h1.can t (xC.1 ht),?_⟩,h2⟩
 have:=wJ (show (sortC cmpT Z.1).Perm Z.1 from yQ _)
 have hsu:=h1.sum
 show qX (sortC cmpT Z.1) ≤ _
 omega
theorem drawForAnyF_ok {code:List Int} (hc:jW code) {s:Nat × Int} {m:Int} (hs:s.1 ≤ code.length):FAOk (m.toNat + 13) (kB code s m).1∧(kB code s m).2.1 ≤ code.length:=by
 obtain ⟨h1,h2⟩:=yZ0 hc (m:=m) hs
 unfold kB
 obtain ⟨f,hf⟩:∃ f,f = yI code s m:=⟨_,rfl⟩
 rw [← hf] at h1 h2 ⊢
 simp only
 have hl:=qK0 h1.lev
 have hsu:=h1.sum
 have h3:=jU (n:=24) h2
 split
 ·obtain ⟨g1,g2⟩:=qN0 hc (m:=4) h3
  have:=g1.len
  refine ⟨⟨?_,by simp;omega⟩,g2⟩
  rw [vG]
  have e:qX [(drawF code (nxtF code f.2 24).2 4).1] = (drawF code (nxtF code f.2 24).2 4).1.length:=by simp [qX]
  have h4:(4:Int).toNat = 4:=rfl
  omega
 ·split
  ·obtain ⟨g1,g2⟩:=drawAnyF_ok hc (m:=3) h3
   have:=g1.len
   refine ⟨⟨?_,by simp;omega⟩,g2⟩
   rw [vG]
   have e:qX [(xN code (nxtF code f.2 24).2 3).1] = (xN code (nxtF code f.2 24).2 3).1.length:=by simp [qX]
   have h4:(3:Int).toNat = 3:=rfl
   omega
  ·split
   ·refine ⟨⟨?_,by simp;omega⟩,h3⟩
    have e:qX ([0,1,1] :: f.1) = 3 + qX f.1:=by simp [qX]
    show qX ([0,1,1] :: f.1) ≤ _
    omega
   ·exact ⟨⟨show qX f.1 ≤ _ by omega,show f.1.length ≤ _ by omega⟩,h3⟩
def qI0 (code:List Int) (s:Nat × Int) (m:Int):List Res × (Nat × Int):=([.own 1 ((kB code s m).1.map eL) false],(kB code s m).2)
theorem AEp.forget {P:Program} {f:FuncId} {ptr:Bool} {k k':Nat} {xs xs0 ys:List (List D)} {post:List (List D)} (h:AEp P f ptr k xs post (fun r x => r = [.own k' ys true]∧x = xs0)):AEp P f ptr k xs post (fun r x => r = [.own k' ys false]∧x = xs0):=by
 refine ⟨h.call,fun A w us og cap ds a1 a2 a3 a4 a5 a6 => (h.fn A w us og cap ds a1 a2 a3 a4 a5 a6).mono ?_⟩
 rintro e w' ⟨v,rs,x',ds',us',G,X,rfl,⟨rfl,rfl⟩,hb,rfl,hG1,hG2,hrel,hlen,hrow,hrd⟩
 obtain ⟨v1,us1,G1,G2,Y1,Y2,rfl,e1,e2,ho,⟨og',cap',F,dd,rfl,hrow',hk',e3,e4,hel⟩,hend⟩:=hrel
 have hend:us1 = []∧G2 = []∧Y2 = []:=hend
 obtain ⟨rfl,rfl,rfl⟩:=hend
 have hel:ownR k' w' dd ys F:=hel
 rw [List.append_nil] at e1 e2
 have e3:G1 = og'.toList ++ F:=e3
 subst e3;subst e4;subst e1;subst e2
 refine ⟨_,_,_,ds',[_],og'.toList,og'.toList,rfl,⟨rfl,rfl⟩,hb,rfl,(List.nodup_append.1 hG1).1,fun b hb' => hG2 b (List.mem_append_left _ hb'),?_,hlen,hrow,hrd⟩
 refine ⟨_,[],og'.toList,[],og'.toList,[],rfl,by simp,by simp,ho,⟨og',cap',[],dd,rfl,hrow',hk',by simp,rfl,?_⟩,rfl,rfl,rfl⟩
 show rdR k' (fun b => (A b ∨ w.heap.size ≤ b)∧b ∉ og'.toList) w' dd ys
 exact hel.rd.mono (fun b hb' _ => ⟨.inr (hG2 b (List.mem_append_right _ hb')),fun h2 => (List.nodup_append.1 hG1).2.2 b h2 b hb' rfl⟩)
theorem kL0 {code:List Int} (hc:jW code) (hl:code.length ≤ 1000000000):xT Tryz.prog 63 code (drw1 (qI0 code)):=by
 refine drw1_of fun s m hs hm1 hm2 => ?_
 have hpin:=kP hc hl
 have hdw:=(p_l03Draw hc hl).ok
 have hda:=(p_l03DrawAny hc hl).ok
 have hdf:=(kB0 hc hl).ok
 have hdt:drwG code (drw1 (vU code)) 3 [srcD code s] [[.int m]] = some ([.own 1 ((yI code s m).1.map eL) true],[srcD code (yI code s m).2]):=vJ hs ⟨hm1,hm2⟩
 obtain ⟨h1,h2⟩:=yZ0 hc (m:=m) hs
 have hdr:=yG code (yI code s m).2 24 h2
 have hat:=jU (n:=24) h2
 unfold qI0 kB
 obtain ⟨⟨f,s1⟩,hp⟩:∃ p,p = yI code s m:=⟨_,rfl⟩
 rw [← hp] at h1 h2 hdr hat hdt ⊢
 simp only at h1 h2 hdr hat hdt ⊢
 obtain ⟨⟨c,s2⟩,hq⟩:∃ p,p = nxtF code s1 24:=⟨_,rfl⟩
 rw [← hq] at hdr hat ⊢
 simp only [eI] at hdr hat ⊢
 have hfl:=qK0 h1.lev
 have hfs:=h1.sum
 have hfm:(f.map eL).length = f.length:=List.length_map _
 have q1:=jJ (n:=f.length + 1) (by omega)
 have q2:=qP (n:=f.length + 1) (c:=24) (by omega) (by omega)
 by_cases c0:c = 0
 ·refine AEp.forget ?_
  subst c0
  have hd0:drwG code (drw1 (drawG code)) 3 [srcD code s2] [[.int (4:Int)]] = some ([.own 1 ((drawF code s2 4).1.map eI) true],[srcD code (drawF code s2 4).2]):=vJ hat (by omega)
  obtain ⟨⟨t,s3⟩,ht⟩:∃ p,p = drawF code s2 4:=⟨_,rfl⟩
  rw [← ht] at hd0 ⊢
  simp only [if_true] at hd0 ⊢
  rw [show (f ++ [t]).map eL = f.map eL ++ [[D.sl 1 (t.map eI)]] by rw [List.map_append];rfl]
  refine AEp.of_runs (qQ 32) Tryz.func63 rfl rfl rfl (fun _ => rfl) gz ?_
  have hres:Tryz.f63.results.toList = [.tmp 4]:=rfl
  have hrts:Tryz.f63.resultTypes.toList = [36]:=rfl
  simp only [List.length_cons,List.length_nil,jF,if_true,qV,qT,eL,eI,eLL,eB,Nat.zero_add,Nat.reduceAdd]
  intro M og cap
  refine qJ.of ?_
  refine gw211 (Y6 hdr hdt hd0 hfm q1 q2) ?_
  exact gw200
 ·have e0:(c == 0) = false:=by simp [c0]
  by_cases c1:c = 1
  ·refine AEp.forget ?_
   subst c1
   have hd0:drwG code (drw1 (drawAnyG code)) 3 [srcD code s2] [[.int (3:Int)]] = some ([.own 1 ((xN code s2 3).1.map eI) true],[srcD code (xN code s2 3).2]):=vJ hat (by omega)
   obtain ⟨⟨t,s3⟩,ht⟩:∃ p,p = xN code s2 3:=⟨_,rfl⟩
   rw [← ht] at hd0 ⊢
   rw [if_neg c0,if_pos rfl]
   simp only at hd0 ⊢
   rw [show (f ++ [t]).map eL = f.map eL ++ [[D.sl 1 (t.map eI)]] by rw [List.map_append];rfl]
   refine AEp.of_runs (qQ 32) Tryz.func63 rfl rfl rfl (fun _ => rfl) gz ?_
   have hres:Tryz.f63.results.toList = [.tmp 4]:=rfl
   have hrts:Tryz.f63.resultTypes.toList = [36]:=rfl
   simp only [List.length_cons,List.length_nil,jF,if_true,qV,qT,eL,eI,eLL,eB,Nat.zero_add,Nat.reduceAdd]
   intro M og cap
   refine qJ.of ?_
   refine gw212 (Y7 hdr hdt hd0 e0 hfm q1 q2) ?_
   exact gw200
  ·have e1:(c == 1) = false:=by simp [c1]
   by_cases c2:c = 2
   ·subst c2
    rw [if_neg c0,if_neg c1,if_pos rfl]
    rw [show ([0,1,1] :: f).map eL = [D.sl 1 [[D.int 0],[D.int 1],[D.int 1]]] :: f.map eL from rfl]
    have q3:=jJ (n:=1 + f.length) (by omega)
    have q4:=qP (n:=1 + f.length) (c:=24) (by omega) (by omega)
    refine AEp.of_runs (qQ 32) Tryz.func63 rfl rfl rfl (fun _ => rfl) gz ?_
    have hres:Tryz.f63.results.toList = [.tmp 4]:=rfl
    have hrts:Tryz.f63.resultTypes.toList = [36]:=rfl
    simp only [List.length_cons,List.length_nil,jF,if_true,qV,qT,eL,eI,eLL,eB,Nat.zero_add,Nat.reduceAdd]
    intro M og cap
    refine qJ.of ?_
    refine gw213 (Y5 hdr hdt e0 e1 hfm) ?_
    refine qJ.frz 5 ?_
    ((refine gw214 ?_);(with_reducible refine qJ.regCut (qQ 32) Tab.none 1 (s1:=?_) ?_ ?_);rotate_left 1;(focus ((with_reducible refine QW ?_);simp only [Zg,Zi,seval,reduceCtorEq,Nat.reduceEqDiff];with_reducible rfl));simp only [List.toList_toArray,List.drop_succ_cons,List.drop_zero])
    refine qZ.frzs [27] ?_
    (refine qZ.opsT (qQ 32) (T:=Tab.none) (s':=?_) ?_ ?_;rotate_left 1;focus (simp only [Zg,Zi,seval,reduceCtorEq,Nat.reduceEqDiff,hfm,q3,q4];with_reducible rfl))
    refine gw215 ?_
    exact gw200
   ·have e2:(c == 2) = false:=by simp [c2]
    rw [if_neg c0,if_neg c1,if_neg c2]
    refine AEp.forget ?_
    refine AEp.of_runs (qQ 32) Tryz.func63 rfl rfl rfl (fun _ => rfl) gz ?_
    have hres:Tryz.f63.results.toList = [.tmp 4]:=rfl
    have hrts:Tryz.f63.resultTypes.toList = [36]:=rfl
    simp only [List.length_cons,List.length_nil,jF,if_true,qV,qT,eL,eI,eLL,eB,Nat.zero_add,Nat.reduceAdd]
    intro M og cap
    refine qJ.of ?_
    refine gw213 (Y6 hdr hdt e0 e1 e2 hfm) ?_
    exact gw200
def powG:Nat→Int→Nat→Int→Int
 | 0,_,_,out => out
 | f + 1,a,k,out => if k = 0 then out else powG f (mP (a * a)) (k / 2) (if k % 2 = 1 then mP (out * a) else out)
theorem powG_zero (f:Nat) (a out:Int):powG f a 0 out = out:=by cases f <;> simp [powG]
theorem kU (n:Int):0 ≤ mP n∧mP n < 10007:=by unfold mP;omega
theorem powG_bd:∀ (f:Nat) (a:Int) (k:Nat) (out:Int),0 ≤ out∧out < 10007→0 ≤ powG f a k out∧powG f a k out < 10007
 | 0,_,_,_,h => h
 | f + 1,a,k,out,h => by
  unfold powG
  split
  ·exact h
  ·exact powG_bd f _ _ _ (by split;exact kU _;exact h)
theorem mul_bdW {a b:Int} (h1:0 ≤ a∧a < 10007) (h2:0 ≤ b∧b < 10007):0 ≤ a * b∧a * b ≤ 100140049:=by
 refine ⟨Int.mul_nonneg h1.1 h2.1,?_⟩
 have:=Int.mul_le_mul (a:=a) (b:=b) (c:=10007) (d:=10007) (by omega) (by omega) h2.1 (by omega)
 omega
theorem a_l01Pow (f:Nat) (a0:Int) (k0:Nat) (ha:0 ≤ a0∧a0 < 10007) (hk:k0 < 2 ^ f) (hk2:k0 ≤ 1000000000):AFn Tryz.prog 275 [eI a0,eI k0] (· = [.val (.int (powG f a0 k0 1))]):=by
 refine AFn.of_runs (qQ 20) Tryz.func275 rfl rfl rfl gz ?_
 have hres:Tryz.f275.results.toList = [.tmp 4]:=rfl
 have hrts:Tryz.f275.resultTypes.toList = [2]:=rfl
 simp only [qV,qT,eL,eI,eLL,eB,Nat.zero_add,Nat.reduceAdd]
 intro M
 refine qJ.of ?_
 refine gw216 Y0 ?_
 refine qJ.loop (β:=Nat × Int × Nat × Int) (γ:=Unit) (fun x => ⟨[(0,.c (.val (.int x.2.1))),(1,.c (.val (.int x.2.2.1))),(5,.c (.val (.int x.2.2.2)))],[]⟩) (fun x => (0 ≤ x.2.1∧x.2.1 < 10007)∧x.2.2.1 < 2 ^ x.1∧x.2.2.1 ≤ 1000000000∧(0 ≤ x.2.2.2∧x.2.2.2 < 10007)∧powG x.1 x.2.1 x.2.2.1 x.2.2.2 = powG f a0 k0 1) (fun x => x.2.2.1)
  (fun _ => ⟨[(5,.c (.val (.int (powG f a0 k0 1))))],[]⟩) (fun _ => True) (f,a0,k0,1) ⟨ha,hk,hk2,(by decide:(0:Int) ≤ 1∧(1:Int) < 10007),rfl⟩ ?_ ?_ ?_
 ·exact gw7 Y0
 ·rintro ⟨g,a,k,out⟩ ⟨h1,h2,h3,h4,h5⟩
  simp only at h1 h2 h3 h4 h5 ⊢
  by_cases h:k = 0
  ·subst h
   have i1:(((0:Nat):Int) > 0) = False:=eq_false (by omega)
   rw [powG_zero] at h5
   refine gw216 i1 ?_
   refine qY.out () trivial ?_
   rw [← h5]
   exact gw7 Y0
  ·have i1:((k:Int) > 0) = True:=eq_true (by omega)
   have hq:(k:Int).tdiv 2 = ((k / 2:Nat):Int):=by rw [Int.tdiv_eq_ediv_of_nonneg (by omega)];omega
   have hr:(k:Int).tmod 2 = ((k % 2:Nat):Int):=by rw [Int.tmod_eq_emod_of_nonneg (by omega)];omega
   have hw:w64 ((k / 2:Nat):Int) = ((k / 2:Nat):Int):=qE (by omega)
   obtain ⟨g,rfl⟩:∃ g',g = g' + 1:=by
    cases g with
    | zero => rw [Nat.pow_zero] at h2;omega
    | succ g => exact ⟨g,rfl⟩
   rw [Nat.pow_succ] at h2
   have haa:=mul_bdW h1 h1
   have hma:=jX0 a a (by omega)
   have hst:powG (g + 1) a k out = powG g (mP (a * a)) (k / 2) (if k % 2 = 1 then mP (out * a) else out):=by
    conv => lhs;unfold powG
    rw [if_neg h]
   rw [hst] at h5
   simp only [eI] at hma
   by_cases hodd:k % 2 = 1
   ·have i2:(((k % 2:Nat):Int) == 1) = true:=beq_iff_eq.2 (by omega)
    have hoa:=mul_bdW h4 h1
    have hmo:=jX0 out a (by omega)
    simp only [eI] at hmo
    rw [if_pos hodd] at h5
    ((refine gw217 i1 ?_);with_reducible (apply QS (qQ 20) Tab.none;refine QW ?_;simp only [Zg,Zi,seval,reduceCtorEq,Nat.reduceEqDiff,i1];rfl);(refine gw217 i1 ?_))
    ((refine gw217 (Y3 hr i2 (show ((2:Int) = 0) = False from eq_false (by decide))) ?_);with_reducible (apply QS (qQ 20) Tab.none;refine QW ?_;simp only [Zg,Zi,seval,reduceCtorEq,Nat.reduceEqDiff,hr,i2,show ((2:Int) = 0) = False from eq_false (by decide)];rfl);(refine gw217 (Y3 hr i2 (show ((2:Int) = 0) = False from eq_false (by decide))) ?_))
    ((refine gw217 i2 ?_);with_reducible (apply QS (qQ 20) (Tab.none.at' 98 hmo);refine QW ?_;simp only [Zg,Zi,seval,reduceCtorEq,Nat.reduceEqDiff,i2];rfl);(refine gw217 i2 ?_))
    ((refine gw217 Y0 ?_);with_reducible (apply QS (qQ 20) (Tab.none.at' 98 hma);refine QW ?_;simp only [Zg,Zi,seval,reduceCtorEq,Nat.reduceEqDiff];rfl);(refine gw217 Y0 ?_))
    refine gw216 (Y3 hq hw (show ((2:Int) = 0) = False from eq_false (by decide))) ?_
    refine qY.on (g,mP (a * a),k / 2,mP (out * a)) ⟨⟨kU _,by show k / 2 < 2 ^ g;omega,by show k / 2 ≤ _;omega,kU _,h5⟩,by show k / 2 < k;omega⟩ ?_
    exact gw7 Y0
   ·have i2:(((k % 2:Nat):Int) == 1) = false:=beq_eq_false_iff_ne.2 (by omega)
    rw [if_neg hodd] at h5
    refine gw218 (Y6 i1 hr i2 hq hw (show ((2:Int) = 0) = False from eq_false (by decide))) ?_
    refine qY.on (g,mP (a * a),k / 2,out) ⟨⟨kU _,by show k / 2 < 2 ^ g;omega,by show k / 2 ≤ _;omega,h4,h5⟩,by show k / 2 < k;omega⟩ ?_
    exact gw7 Y0
 ·rintro _ _
  refine gw216 Y0 ?_
  exact gw2
theorem a_l01Inv (a:Int) (ha:0 ≤ a∧a < 10007):AFn Tryz.prog 265 [eI a] (· = [.val (.int (powG 14 a 10005 1))]):=by
 have h:=a_l01Pow 14 a 10005 ha (by decide) (by decide)
 simp only [eI,show ((10005:Nat):Int) = 10005 from rfl] at h
 refine AFn.of_runs (qQ 5) Tryz.func265 rfl rfl rfl gz ?_
 have hres:Tryz.f265.results.toList = [.tmp 2]:=rfl
 have hrts:Tryz.f265.resultTypes.toList = [2]:=rfl
 simp only [qV,qT,eL,eI,eLL,eB,Nat.zero_add,Nat.reduceAdd]
 intro M
 refine qJ.of ?_
 refine gw219 ?_
 exact gw2
def drw0 (G:(Nat × Int)→List Res × (Nat × Int)) (s:Nat × Int):List (List D)→Option (List Res × (Nat × Int))
 | [] => some (G s)
 | _ => none
theorem drw0_eq {code:List Int} {G:(Nat × Int)→List Res × (Nat × Int)} {s:Nat × Int} (h:s.1 ≤ code.length):drwG code (drw0 G) 3 [srcD code s] [] = some ((G s).1,[srcD code (G s).2]):=by
 rw [drwG_eq h];rfl
theorem drw0_of {P:Program} {f:FuncId} {code:List Int} {G:(Nat × Int)→List Res × (Nat × Int)} (h:∀ s,s.1 ≤ code.length→AEp P f true 3 [srcD code s] [] (fun r x => r = (G s).1∧x = [srcD code (G s).2])):xT P f code (drw0 G):=by
 intro s post rs s' hs hp
 unfold drw0 at hp
 split at hp
 ·have e:=Option.some.inj hp
  have e1:rs = (G s).1:=by rw [e]
  have e2:s' = (G s).2:=by rw [e]
  subst e1;subst e2
  exact h s hs
 ·cases hp
def drw2 (G:(Nat × Int)→Int→Int→List Res × (Nat × Int)) (s:Nat × Int):List (List D)→Option (List Res × (Nat × Int))
 | [[.int a],[.int m]] => if (0 ≤ a∧a ≤ 10)∧0 ≤ m∧m ≤ 8 then some (G s a m) else none
 | _ => none
theorem drw2_eq {code:List Int} {G:(Nat × Int)→Int→Int→List Res × (Nat × Int)} {s:Nat × Int} (h:s.1 ≤ code.length) {a m:Int} (hm:(0 ≤ a∧a ≤ 10)∧0 ≤ m∧m ≤ 8):drwG code (drw2 G) 3 [srcD code s] [[.int a],[.int m]] = some ((G s a m).1,[srcD code (G s a m).2]):=by
 rw [drwG_eq h]
 show Option.map _ (if (0 ≤ a∧a ≤ 10)∧0 ≤ m∧m ≤ 8 then some (G s a m) else none) = _
 rw [if_pos hm];rfl
theorem drw2_of {P:Program} {f:FuncId} {code:List Int} {G:(Nat × Int)→Int→Int→List Res × (Nat × Int)} (h:∀ s a m,s.1 ≤ code.length→0 ≤ a→a ≤ 10→0 ≤ m→m ≤ 8→AEp P f true 3 [srcD code s] [[.int a],[.int m]] (fun r x => r = (G s a m).1∧x = [srcD code (G s a m).2])):xT P f code (drw2 G):=by
 intro s post rs s' hs hp
 unfold drw2 at hp
 split at hp
 ·rename_i a m
  split at hp
  ·rename_i hm
   have e:=Option.some.inj hp
   have e1:rs = (G s a m).1:=by rw [e]
   have e2:s' = (G s a m).2:=by rw [e]
   subst e1;subst e2
   exact h s a m hs hm.1.1 hm.1.2 hm.2.1 hm.2.2
  ·cases hp
 ·cases hp
def fracP (p q:Int):Int:=mP (mP p * powG 14 (mP q) 10005 1)
theorem fracP_bd (p q:Int):0 ≤ fracP p q∧fracP p q < 10007:=kU _
theorem a_l01FracG (p q:Int) (hp:-1000 ≤ p∧p ≤ 1000) (hq:-1000 ≤ q∧q ≤ 1000):AFn Tryz.prog 232 [eI p,eI q] (· = [.val (.int (fracP p q))]):=by
 have m1:=a_l01Mod p
 have m2:=a_l01Mod q
 have hb:=kU q
 have hp2:=kU p
 have hv:=powG_bd 14 (mP q) 10005 1 (by decide)
 have hbb:=mul_bdW hp2 hv
 have m3:=a_l01Inv (mP q) hb
 have m4:=jX0 (mP p) (powG 14 (mP q) 10005 1) (by omega)
 unfold fracP
 simp only [eI] at m1 m2 m3 m4
 refine AFn.of_runs (qQ 11) Tryz.func232 rfl rfl rfl gz ?_
 have hres:Tryz.f232.results.toList = [.tmp 4]:=rfl
 have hrts:Tryz.f232.resultTypes.toList = [2]:=rfl
 simp only [qV,qT,eL,eI,eLL,eB,Nat.zero_add,Nat.reduceAdd]
 intro M
 refine qJ.of ?_
 refine gw220 ?_
 exact gw2
def kK:List Int:=[0,1,0,1,10006,2]
def numF (code:List Int) (s:Nat × Int):Int × (Nat × Int) :=
 let c:=nxtF code s 5
 if c.1 = 0 then nxtF code c.2 10007 else if c.1 = 1 then pickF code c.2 kK else
  let a:=nxtF code c.2 15
  let b:=nxtF code a.2 12
  (fracP (a.1 - 7) (1 + b.1),b.2)
theorem numF_ok {code:List Int} (hc:jW code) {s:Nat × Int} (hs:s.1 ≤ code.length):(0 ≤ (numF code s).1∧(numF code s).1 < 10007)∧(numF code s).2.1 ≤ code.length:=by
 unfold numF
 obtain ⟨c,hcd⟩:∃ c,c = nxtF code s 5:=⟨_,rfl⟩
 have h1:=jU (n:=5) hs
 rw [← hcd] at h1 ⊢
 simp only
 split
 ·have hb:=jM hc c.2 10007
  exact ⟨by omega,jU h1⟩
 ·split
  ·obtain ⟨h2,h3⟩:=pickF_ok hc h1 (l:=kK) (by decide)
   refine ⟨?_,h3⟩
   generalize (pickF code c.2 kK).1 = x at h2
   unfold kK at h2
   simp only [List.mem_cons,List.not_mem_nil,or_false] at h2
   omega
  ·exact ⟨fracP_bd _ _,jU (jU h1)⟩
def numG (code:List Int) (s:Nat × Int):List Res × (Nat × Int):=([.val (.int (numF code s).1)],(numF code s).2)
theorem p_l01Number {code:List Int} (hc:jW code) (hl:code.length ≤ 1000000000):xT Tryz.prog 199 code (drw0 (numG code)):=by
 refine drw0_of fun s hs => ?_
 have hpin:=kP hc hl
 have hpk:=(p_l01Pick hc hl).ok
 have hdr:=yG code s 5 hs
 have hbd:=jM hc s 5
 have hat:=jU (n:=5) hs
 unfold numG numF
 obtain ⟨⟨c,s1⟩,hp⟩:∃ p,p = nxtF code s 5:=⟨_,rfl⟩
 rw [← hp] at hdr hbd hat ⊢
 simp only [eI] at hdr hbd hat ⊢
 by_cases c0:c = 0
 ·subst c0
  have hd0:=yG code s1 10007 hat
  obtain ⟨⟨x,s2⟩,hp⟩:∃ p,p = nxtF code s1 10007:=⟨_,rfl⟩
  rw [← hp] at hd0 ⊢
  simp only [eI,if_true] at hd0 ⊢
  refine AEp.of_runs (qQ 21) Tryz.func199 rfl rfl rfl (fun _ => rfl) gz ?_
  have hres:Tryz.f199.results.toList = [.tmp 2]:=rfl
  have hrts:Tryz.f199.resultTypes.toList = [2]:=rfl
  simp only [List.length_cons,List.length_nil,jF,if_true,qV,qT,eL,eI,eLL,eB,Nat.zero_add,Nat.reduceAdd]
  intro M og cap
  refine qJ.of ?_
  refine gw221 (Yp hdr hd0) ?_
  exact gw200
 have e0:(c == 0) = false:=by simp [c0]
 by_cases c1:c = 1
 ·subst c1
  have hd0:=drwL_eq (G:=pickG code) hat (l:=kK) (by decide) (by decide)
  have e2:pickG code s1 kK = ([.val (.int (pickF code s1 kK).1)],(pickF code s1 kK).2):=rfl
  rw [e2] at hd0
  rw [if_neg c0,if_pos rfl]
  obtain ⟨⟨x,s2⟩,hp⟩:∃ p,p = pickF code s1 kK:=⟨_,rfl⟩
  rw [← hp] at hd0 ⊢
  simp only [kK,List.map_cons,List.map_nil,eI] at hd0 ⊢
  refine AEp.of_runs (qQ 21) Tryz.func199 rfl rfl rfl (fun _ => rfl) gz ?_
  have hres:Tryz.f199.results.toList = [.tmp 2]:=rfl
  have hrts:Tryz.f199.resultTypes.toList = [2]:=rfl
  simp only [List.length_cons,List.length_nil,jF,if_true,qV,qT,eL,eI,eLL,eB,Nat.zero_add,Nat.reduceAdd]
  intro M og cap
  refine qJ.of ?_
  refine gw221 (Yp hdr e0) ?_
  ((refine gw222 ?_);(with_reducible refine qJ.regCut (qQ 21) Tab.none 2 (s1:=?_) ?_ ?_);rotate_left 1;(focus ((with_reducible refine QW ?_);simp only [Zg,Zi,seval,reduceCtorEq,Nat.reduceEqDiff];with_reducible rfl));simp only [List.toList_toArray,List.drop_succ_cons,List.drop_zero])
  refine qZ.frzs [12] ?_
  (refine qZ.opsT (qQ 21) (T:=Tab.none.pin 147 (drwE code (drwL (pickG code))) hpk) (s':=?_) ?_ ?_;rotate_left 1;focus (simp only [Zg,Zi,seval,reduceCtorEq,Nat.reduceEqDiff,hd0,drwE];with_reducible rfl))
  refine gw36 ?_
  exact gw200
 have e1:(c == 1) = false:=by simp [c1]
 rw [if_neg c0,if_neg c1]
 have hd0:=yG code s1 15 hat
 have hb0:=jM hc s1 15
 have ha0:=jU (n:=15) hat
 obtain ⟨⟨x,s2⟩,hp⟩:∃ p,p = nxtF code s1 15:=⟨_,rfl⟩
 rw [← hp] at hd0 hb0 ha0 ⊢
 simp only [eI] at hd0 hb0 ha0 ⊢
 have hd1:=yG code s2 12 ha0
 have hb1:=jM hc s2 12
 obtain ⟨⟨y,s3⟩,hp⟩:∃ p,p = nxtF code s2 12:=⟨_,rfl⟩
 rw [← hp] at hd1 hb1 ⊢
 simp only [eI] at hd1 hb1 ⊢
 have hfr:=a_l01FracG (x - 7) (1 + y) (by omega) (by omega)
 have w1:w64 (x - 7) = x - 7:=qE (by omega)
 have w2:w64 (1 + y) = 1 + y:=qE (by omega)
 simp only [eI] at hfr
 refine AEp.of_runs (qQ 21) Tryz.func199 rfl rfl rfl (fun _ => rfl) gz ?_
 have hres:Tryz.f199.results.toList = [.tmp 2]:=rfl
 have hrts:Tryz.f199.resultTypes.toList = [2]:=rfl
 simp only [List.length_cons,List.length_nil,jF,if_true,qV,qT,eL,eI,eLL,eB,Nat.zero_add,Nat.reduceAdd]
 intro M og cap
 refine qJ.of ?_
 refine gw223 (Y7 hdr hd0 hd1 e0 e1 w1 w2) ?_
 exact gw200
def kR (code:List Int) (most:Int):Nat→(Nat × Int)→Elt→Elt × (Nat × Int)
 | 0,s,e => (e,s)
 | k + 1,s,e =>
  let a:=numF code s
  let f:=yI code a.2 most
  kR code most k f.2 (putS cmpF e a.1 f.1)
def kV (code:List Int) (s:Nat × Int) (parts most:Int):Elt × (Nat × Int) :=
 let n:=nxtF code s (parts + 1)
 kR code most n.1.toNat n.2 []
structure EOk (n m:Nat) (e:Elt):Prop where
 len:e.length ≤ n
 ok:∀ q ∈ e,(1 ≤ q.1∧q.1 < 10007)∧FOk m q.2∧q.2.length ≤ m
theorem EOk.okE {n m:Nat} (hm:m ≤ 8) {e:Elt} (h:EOk n m e):∀ q ∈ e,(1 ≤ q.1∧q.1 < 10007)∧SmF q.2:=fun q hq => by
 obtain ⟨h1,h2,h3⟩:=h.ok q hq
 have:=h2.sum
 exact ⟨h1,by omega,by omega⟩
theorem putS_len' (c:List (List Int)→List (List Int)→Int) (k:Int) (x:List (List Int)):∀ (e:Elt),(putS c e k x).length ≤ e.length + 1
 | [] => by unfold putS;split <;> simp
 | (a,y) :: L => by
  have ih:=putS_len' c k x L
  unfold putS
  repeat' split
  all_goals simp only [List.length_cons] at ih ⊢
  all_goals omega
theorem putS_coefs {k:Int} {x:List (List Int)} (hk:0 ≤ k∧k < 10007):∀ {L:Elt},(∀ q ∈ L,1 ≤ q.1∧q.1 < 10007)→∀ q ∈ putS cmpF L k x,1 ≤ q.1∧q.1 < 10007
 | [],_ => by
  unfold putS
  split
  ·exact fun q hq => nomatch hq
  ·intro q hq
   rw [List.mem_singleton] at hq;subst hq
   simp only;omega
 | (a,y) :: L,he => by
  have ha:=he (a,y) (by simp)
  have hL:∀ q ∈ L,1 ≤ q.1∧q.1 < 10007:=fun q hq => he q (by simp [hq])
  unfold putS
  split
  ·exact he
  ·split
   ·intro q hq
    rcases List.mem_cons.1 hq with rfl|hq
    ·simp only;omega
    ·exact he q hq
   ·split
    ·split
     ·exact hL
     ·intro q hq
      rcases List.mem_cons.1 hq with rfl|hq
      ·have:=jR (a + k);simp only;omega
      ·exact hL q hq
    ·intro q hq
     rcases List.mem_cons.1 hq with rfl|hq
     ·exact ha
     ·exact putS_coefs hk hL q hq
theorem EOk.put {n m:Nat} {e:Elt} (h:EOk n m e) {k:Int} (hk:0 ≤ k∧k < 10007) {f:List (List Int)} (hf:FOk m f):EOk (n + 1) m (putS cmpF e k f):=by
 refine ⟨Nat.le_trans (putS_len' cmpF k f e) (by have:=h.len;omega),fun q hq => ⟨putS_coefs hk (fun q hq => (h.ok q hq).1) q hq,?_⟩⟩
 have key:FOk m q.2:=by
  rcases putS_mem e k f hq with h1|⟨p,h1,h2⟩
  ·rw [h1];exact hf
  ·rw [← h2];exact (h.ok p h1).2.1
 exact ⟨key,Nat.le_trans (qK0 key.lev) key.sum⟩
theorem drawElN_ok {code:List Int} (hc:jW code) {most:Int}:∀ (k:Nat) {s:Nat × Int} {e:Elt} {n:Nat},EOk n most.toNat e→s.1 ≤ code.length→EOk (n + k) most.toNat (kR code most k s e).1∧(kR code most k s e).2.1 ≤ code.length
 | 0,_,_,_,h,hs => ⟨h,hs⟩
 | k + 1,s,e,n,h,hs => by
  obtain ⟨h1,h2⟩:=numF_ok hc hs
  obtain ⟨h3,h4⟩:=yZ0 hc (m:=most) h2
  have:=drawElN_ok hc (most:=most) k (h.put h1 h3) h4
  rw [show n + (k + 1) = n + 1 + k by omega]
  exact this
theorem drawElF_ok {code:List Int} (hc:jW code) {s:Nat × Int} {parts most:Int} (hs:s.1 ≤ code.length) (hp:0 ≤ parts):EOk parts.toNat most.toNat (kV code s parts most).1∧(kV code s parts most).2.1 ≤ code.length:=by
 have hb:=jM hc s (parts + 1)
 have h:=drawElN_ok hc (most:=most) (nxtF code s (parts + 1)).1.toNat (s:=(nxtF code s (parts + 1)).2) (e:=[]) (n:=0) ⟨Nat.le_refl _,fun q hq => nomatch hq⟩ (jU hs)
 refine ⟨⟨Nat.le_trans h.1.len (by omega),h.1.ok⟩,h.2⟩
def drawElG (code:List Int) (s:Nat × Int) (parts most:Int):List Res × (Nat × Int):=([.own 2 ((kV code s parts most).1.map ePt) false],(kV code s parts most).2)
theorem p_l06Draw {code:List Int} (hc:jW code) (hl:code.length ≤ 1000000000):xT Tryz.prog 146 code (drw2 (drawElG code)):=by
 refine drw2_of fun s parts most hs hp0 hp1 hm0 hm1 => ?_
 have hpin:=kP hc hl
 have hnm:=(p_l01Number hc hl).ok
 have hdf:=(kB0 hc hl).ok
 have hdr:=yG code s (parts + 1) hs
 have hbd:=jM hc s (parts + 1)
 have hat:=jU (n:=parts + 1) hs
 have w0:w64 (parts + 1) = parts + 1:=qE (by omega)
 unfold drawElG kV
 obtain ⟨⟨kk,s1⟩,hp⟩:∃ p,p = nxtF code s (parts + 1):=⟨_,rfl⟩
 rw [← hp] at hdr hbd hat ⊢
 simp only at hdr hbd hat ⊢
 obtain ⟨k,rfl⟩:∃ k:Nat,kk = k:=⟨kk.toNat,by omega⟩
 rw [Int.toNat_natCast]
 have hk:k ≤ 10:=by omega
 simp only [eI] at hdr
 refine AEp.of_runs (qQ 26) Tryz.func146 rfl rfl rfl (fun _ => rfl) gz ?_
 have hres:Tryz.f146.results.toList = [.tmp 6]:=rfl
 have hrts:Tryz.f146.resultTypes.toList = [50]:=rfl
 simp only [List.length_cons,List.length_nil,jF,if_true,qV,qT,eL,eI,eLL,eB,Nat.zero_add,Nat.reduceAdd]
 intro M og cap
 refine qJ.of ?_
 refine gw224 (Yp hdr w0) ?_
 refine qJ.loop (β:=Nat × (Nat × Int) × Elt) (γ:=Elt × (Nat × Int)) (fun x => ⟨[(0,.optr 0 0 0),(2,.c (.val (.int most))),(7,.c (.own 7 x.2.2.length)),(8,.c (.val (.int x.1)))],[(0,.pin og cap 3 [srcD code x.2.1]),(7,.row 2 (x.2.2.map ePt) false)]⟩)
  (fun x => x.1 ≤ k∧x.2.1.1 ≤ code.length∧EOk (k - x.1) most.toNat x.2.2∧kR code most x.1 x.2.1 x.2.2 = kR code most k s1 []) (fun x => x.1)
  (fun z => ⟨[(0,.optr 0 0 0),(7,.c (.own 7 z.1.length))],[(0,.pin og cap 3 [srcD code z.2]),(7,.row 2 (z.1.map ePt) false)]⟩) (fun z => z = kR code most k s1 []) (k,s1,[]) ⟨Nat.le_refl _,hat,⟨by simp,fun q hq => nomatch hq⟩,rfl⟩ ?_ ?_ ?_
 ·(repeat' (first|exact Qn|((with_reducible refine Qr ?_ ?_);focus first|with_reducible rfl|(simp only [Zz,Nat.reduceBEq,List.map_nil,List.length_nil];done)|rfl)|((with_reducible apply Qj);rfl)|((with_reducible refine Qw ?_ ?_);(focus first|with_reducible rfl|(simp only [Zv,List.map_nil,List.length_nil];done));first|exact id|exact nofun|exact fun _=>rfl)))
  all_goals first|exact ⟨rfl,rfl⟩|exact ⟨rfl,rfl,id⟩|exact ⟨rfl,rfl,rfl,rfl⟩|exact ⟨rfl,rfl,fun h => nomatch h⟩
 ·rintro ⟨j,s,e⟩ ⟨hj,hs,he,hgr⟩
  simp only at hj hs he hgr
  by_cases h0:0 < j
  ·obtain ⟨j,rfl⟩:∃ i,j = i + 1:=⟨j - 1,by omega⟩
   have i1:(((j + 1:Nat):Int) > 0) = True:=eq_true (by omega)
   have hd1:=drw0_eq (G:=numG code) hs
   obtain ⟨h1,h2⟩:=numF_ok hc hs
   have hd2:=vJ (G:=vU code) h2 (m:=most) (by omega)
   obtain ⟨h3,h4⟩:=yZ0 hc (m:=most) h2
   have hgr:kR code most j (yI code (numF code s).2 most).2 (putS cmpF e (numF code s).1 (yI code (numF code s).2 most).1) = kR code most k s1 []:=hgr
   have e1:numG code s = ([.val (.int (numF code s).1)],(numF code s).2):=rfl
   rw [e1] at hd1
   obtain ⟨⟨a,s2⟩,hp⟩:∃ p,p = numF code s:=⟨_,rfl⟩
   rw [← hp] at hd1 hd2 h1 h2 h3 h4 hgr
   simp only at hd1 hd2 h1 h2 h3 h4 hgr
   have e2:vU code s2 most = ([.own 1 ((yI code s2 most).1.map eL) true],(yI code s2 most).2):=rfl
   rw [e2] at hd2
   obtain ⟨⟨f,s3⟩,hp⟩:∃ p,p = yI code s2 most:=⟨_,rfl⟩
   rw [← hp] at hd2 h3 h4 hgr
   simp only at hd2 h3 h4 hgr
   have hnext:=he.put h1 h3
   have hsm:SmF f:=by
    have g1:=qK0 h3.lev
    have g2:=h3.sum
    exact ⟨by omega,by omega⟩
   have hel:=he.len
   have hput:=a_l06PutO e a f (by omega) (he.okE (by omega)) h1 hsm
   have w4:w64 (((j + 1:Nat):Int) - 1) = j:=by rw [qE (by omega)];omega
   simp only [eI,eLL] at hput
   ((refine gw225 i1 ?_);with_reducible (apply QS (qQ 26) Tab.none;refine QW ?_;simp only [Zg,Zi,seval,reduceCtorEq,Nat.reduceEqDiff,i1];rfl);(refine gw225 i1 ?_))
   ((refine gw226 (Y3 hd1 hd2 i1) ?_);(with_reducible refine qJ.regCut (qQ 26) (((Tab.none.pin 82 (nxtE code) hpin).pin 199 (drwE code (drw0 (numG code))) hnm).pin 125 (drwE code (drw1 (vU code))) hdf) 6 (s1:=?_) ?_ ?_);rotate_left 1;(focus ((with_reducible refine QW ?_);simp only [Zg,Zi,seval,reduceCtorEq,Nat.reduceEqDiff,hd1,hd2,drwE,nxtE,i1];with_reducible rfl));simp only [List.toList_toArray,List.drop_succ_cons,List.drop_zero])
   refine qZ.frzs [23] ?_
   (refine qZ.opsT (qQ 26) (T:=Tab.none.own' 137 0 hput) (s':=?_) ?_ ?_;rotate_left 1;focus (simp only [Zg,Zi,seval,reduceCtorEq,Nat.reduceEqDiff,Tab.own',vM];with_reducible rfl))
   refine gw227 w4 ?_
   refine qY.on (j,s3,putS cmpF e a f) ⟨⟨by omega,h4,?_,hgr⟩,by simp⟩ ?_
   ·rw [show k - j = k - (j + 1) + 1 by omega];exact hnext
   (repeat' (first|exact Qn|((with_reducible refine Qr ?_ ?_);focus first|with_reducible rfl|(simp only [Zz,Nat.reduceBEq];done)|rfl)|((with_reducible apply Qj);rfl)|((with_reducible refine Qw ?_ ?_);(focus first|with_reducible rfl|(simp only [Zv];done));first|exact id|exact nofun|exact fun _=>rfl)))
   all_goals first|exact ⟨rfl,rfl⟩|exact ⟨rfl,rfl,id⟩|exact ⟨rfl,rfl,rfl,rfl⟩|exact ⟨rfl,rfl,fun h => nomatch h⟩
  ·obtain rfl:j = 0:=by omega
   have i1:(((0:Nat):Int) > 0) = False:=eq_false (by omega)
   refine gw227 i1 ?_
   refine qY.out (e,s) hgr ?_
   (repeat' (first|exact Qn|((with_reducible refine Qr ?_ ?_);focus first|with_reducible rfl|(simp only [Zz,Nat.reduceBEq];done)|rfl)|((with_reducible apply Qj);rfl)|((with_reducible refine Qw ?_ ?_);(focus first|with_reducible rfl|(simp only [Zv];done));first|exact id|exact nofun|exact fun _=>rfl)))
   all_goals first|exact ⟨rfl,rfl⟩|exact ⟨rfl,rfl,id⟩|exact ⟨rfl,rfl,rfl,rfl⟩
 rintro z rfl
 refine gw227 Y0 ?_
 exact gw200
def kA:List Int:=[0,-1,10007]
def yL (code:List Int) (s:Nat × Int) (parts most:Int):Elt × (Nat × Int) :=
 let e:=kV code s parts most
 let c:=nxtF code e.2 24
 if c.1 = 0 then
  let k:=nxtF code c.2 2
  let f:=kB code k.2 most
  (e.1 ++ [(k.1,f.1)],f.2)
 else if c.1 = 1 then
  if 0 < e.1.length then
   let p:=pickF code c.2 kA
   (e.1.set 0 (p.1,(e.1.getD 0 (0,[])).2),p.2)
  else (e.1,c.2)
 else (e.1,c.2)
structure EAOk (n m:Nat) (e:Elt):Prop where
 len:e.length ≤ n
 ok:∀ q ∈ e,(-1 ≤ q.1∧q.1 ≤ 10007)∧FAOk m q.2
theorem EOk.any {n m:Nat} {e:Elt} (h:EOk n m e):EAOk (n + 1) (m + 13) e:=⟨by have:=h.len;omega,fun q hq => by
 obtain ⟨h1,h2,h3⟩:=h.ok q hq
 have:=h2.sum
 exact ⟨by omega,⟨by omega,by omega⟩⟩⟩
theorem yS0 {code:List Int} (hc:jW code) {s:Nat × Int} {parts most:Int} (hs:s.1 ≤ code.length) (hp:0 ≤ parts):EAOk (parts.toNat + 1) (most.toNat + 13) (yL code s parts most).1∧(yL code s parts most).2.1 ≤ code.length:=by
 obtain ⟨h1,h2⟩:=drawElF_ok hc (most:=most) hs hp
 unfold yL
 obtain ⟨e,he⟩:∃ e,e = kV code s parts most:=⟨_,rfl⟩
 rw [← he] at h1 h2 ⊢
 simp only
 have ha:=h1.any
 have h3:=jU (n:=24) h2
 split
 ·have h4:=jU (n:=2) h3
  have h5:=jM hc (nxtF code e.2 24).2 2
  obtain ⟨h6,h7⟩:=drawForAnyF_ok hc (m:=most) h4
  refine ⟨⟨by have:=h1.len;simp;omega,fun q hq => ?_⟩,h7⟩
  rcases List.mem_append.1 hq with hq|hq
  ·exact ha.ok q hq
  ·obtain rfl:=List.mem_singleton.1 hq
   exact ⟨by simp only;omega,h6⟩
 ·split
  ·split
   ·rename_i h0
    obtain ⟨h6,h7⟩:=pickF_ok hc h3 (l:=kA) (by decide)
    refine ⟨⟨by rw [List.length_set];exact ha.len,fun q hq => ?_⟩,h7⟩
    rcases List.mem_or_eq_of_mem_set hq with hq|rfl
    ·exact ha.ok q hq
    ·refine ⟨?_,?_⟩
     ·generalize (pickF code (nxtF code e.2 24).2 kA).1 = x at h6
      unfold kA at h6
      simp only [List.mem_cons,List.not_mem_nil,or_false] at h6
      (try simp only)
      omega
     ·have e0:e.1.getD 0 (0,[]) = e.1[0]:=by rw [List.getD_eq_getElem?_getD,List.getElem?_eq_getElem h0];rfl
      rw [e0]
      exact (ha.ok e.1[0] (List.getElem_mem _)).2
   ·exact ⟨ha,h3⟩
  ·exact ⟨ha,h3⟩
def wG (code:List Int) (s:Nat × Int) (parts most:Int):List Res × (Nat × Int):=([.own 2 ((yL code s parts most).1.map ePt) false],(yL code s parts most).2)
theorem p_l06DrawAny {code:List Int} (hc:jW code) (hl:code.length ≤ 1000000000):xT Tryz.prog 81 code (drw2 (wG code)):=by
 refine drw2_of fun s parts most hs hp0 hp1 hm0 hm1 => ?_
 have hpin:=kP hc hl
 have hpk:=(p_l01Pick hc hl).ok
 have hdw:=(p_l06Draw hc hl).ok
 have hfa:=(kL0 hc hl).ok
 have hd0:=drw2_eq (G:=drawElG code) hs (a:=parts) (m:=most) ⟨⟨hp0,hp1⟩,hm0,hm1⟩
 obtain ⟨h1,h2⟩:=drawElF_ok hc (most:=most) hs hp0
 have hdr:=yG code (kV code s parts most).2 24 h2
 have hat:=jU (n:=24) h2
 unfold wG yL
 have e0:drawElG code s parts most = ([.own 2 ((kV code s parts most).1.map ePt) false],(kV code s parts most).2):=rfl
 rw [e0] at hd0
 obtain ⟨⟨e,s1⟩,hp⟩:∃ p,p = kV code s parts most:=⟨_,rfl⟩
 rw [← hp] at h1 h2 hdr hat hd0 ⊢
 simp only at h1 h2 hdr hat hd0 ⊢
 obtain ⟨⟨c,s2⟩,hq⟩:∃ p,p = nxtF code s1 24:=⟨_,rfl⟩
 rw [← hq] at hdr hat ⊢
 simp only [eI] at hdr hat ⊢
 have hel:=h1.len
 have hem:(e.map ePt).length = e.length:=List.length_map _
 have q1:=jJ (n:=e.length + 1) (by omega)
 have q2:=qP (n:=e.length + 1) (c:=32) (by omega) (by omega)
 by_cases c0:c = 0
 ·subst c0
  have hd1:=yG code s2 2 hat
  have ha1:=jU (n:=2) hat
  obtain ⟨⟨k,s3⟩,hk⟩:∃ p,p = nxtF code s2 2:=⟨_,rfl⟩
  rw [← hk] at hd1 ha1 ⊢
  simp only [eI,if_true] at hd1 ha1 ⊢
  have hd2:=vJ (G:=qI0 code) ha1 (m:=most) (by omega)
  have e2:qI0 code s3 most = ([.own 1 ((kB code s3 most).1.map eL) false],(kB code s3 most).2):=rfl
  rw [e2] at hd2
  obtain ⟨⟨f,s4⟩,hf⟩:∃ p,p = kB code s3 most:=⟨_,rfl⟩
  rw [← hf] at hd2 ⊢
  simp only at hd2 ⊢
  rw [show (e ++ [(k,f)]).map ePt = e.map ePt ++ [[D.int k,D.sl 1 (f.map eL)]] by rw [List.map_append];rfl]
  refine AEp.of_runs (qQ 37) Tryz.func81 rfl rfl rfl (fun _ => rfl) gz ?_
  have hres:Tryz.f81.results.toList = [.tmp 6]:=rfl
  have hrts:Tryz.f81.resultTypes.toList = [50]:=rfl
  simp only [List.length_cons,List.length_nil,jF,if_true,qV,qT,eL,eI,eLL,eB,Nat.zero_add,Nat.reduceAdd]
  intro M og cap
  refine qJ.of ?_
  refine gw228 (Y7 hdr hd0 hd1 hd2 hem q1 q2) ?_
  exact gw200
 have f0:(c == 0) = false:=by simp [c0]
 by_cases c1:c = 1
 ·subst c1
  rw [if_neg c0,if_pos rfl]
  by_cases hpos:0 < e.length
  ·have hd1:=drwL_eq (G:=pickG code) hat (l:=kA) (by decide) (by decide)
   have e2:pickG code s2 kA = ([.val (.int (pickF code s2 kA).1)],(pickF code s2 kA).2):=rfl
   rw [e2] at hd1
   rw [if_pos hpos]
   obtain ⟨⟨x,s3⟩,hx⟩:∃ p,p = pickF code s2 kA:=⟨_,rfl⟩
   rw [← hx] at hd1 ⊢
   simp only [kA,List.map_cons,List.map_nil,eI] at hd1 ⊢
   have j1:((e.length:Int) > 0) = True:=eq_true (by omega)
   have j2:((0:Int) < (e.length:Int)) = True:=eq_true (by omega)
   have j3:((0:Int) ≤ 0) = True:=eq_true (by omega)
   have j4:(0:Int).toNat = 0:=rfl
   have eg:e.getD 0 (0,[]) = e[0]:=by rw [List.getD_eq_getElem?_getD,List.getElem?_eq_getElem hpos];rfl
   obtain ⟨y,hy⟩:∃ y,y = e[0]:=⟨_,rfl⟩
   rw [eg,← hy]
   have hg:(e.map ePt)[0]? = some [.int y.1,.sl 1 (y.2.map eL)]:=by rw [List.getElem?_map,List.getElem?_eq_getElem hpos,← hy];rfl
   have hset:(e.map ePt).set 0 [.int x,.sl 1 (y.2.map eL)] = (e.set 0 (x,y.2)).map ePt:=by rw [List.map_set];rfl
   rw [← hset]
   refine AEp.of_runs (qQ 37) Tryz.func81 rfl rfl rfl (fun _ => rfl) gz ?_
   have hres:Tryz.f81.results.toList = [.tmp 6]:=rfl
   have hrts:Tryz.f81.resultTypes.toList = [50]:=rfl
   simp only [List.length_cons,List.length_nil,jF,if_true,qV,qT,eL,eI,eLL,eB,Nat.zero_add,Nat.reduceAdd]
   intro M og cap
   refine qJ.of ?_
   refine gw229 (Y5 hdr hd0 f0 hem j1) ?_
   ((refine gw230 ?_);(with_reducible refine qJ.regCut (qQ 37) Tab.none 3 (s1:=?_) ?_ ?_);rotate_left 1;(focus ((with_reducible refine QW ?_);simp only [Zg,Zi,seval,reduceCtorEq,Nat.reduceEqDiff];with_reducible rfl));simp only [List.toList_toArray,List.drop_succ_cons,List.drop_zero])
   refine qZ.frzs [32] ?_
   (refine qZ.opsT (qQ 37) (T:=Tab.none.pin 147 (drwE code (drwL (pickG code))) hpk) (s':=?_) ?_ ?_;rotate_left 1;focus (simp only [Zg,Zi,seval,reduceCtorEq,Nat.reduceEqDiff,hd1,drwE,hem,hg,j2,j3,j4];with_reducible rfl))
   refine gw231 ?_
   exact gw200
  ·rw [if_neg hpos]
   have j1:((e.length:Int) > 0) = False:=eq_false (by omega)
   refine AEp.of_runs (qQ 37) Tryz.func81 rfl rfl rfl (fun _ => rfl) gz ?_
   have hres:Tryz.f81.results.toList = [.tmp 6]:=rfl
   have hrts:Tryz.f81.resultTypes.toList = [50]:=rfl
   simp only [List.length_cons,List.length_nil,jF,if_true,qV,qT,eL,eI,eLL,eB,Nat.zero_add,Nat.reduceAdd]
   intro M og cap
   refine qJ.of ?_
   refine gw229 (Y5 hdr hd0 f0 hem j1) ?_
   exact gw200
 have f1:(c == 1) = false:=by simp [c1]
 rw [if_neg c0,if_neg c1]
 refine AEp.of_runs (qQ 37) Tryz.func81 rfl rfl rfl (fun _ => rfl) gz ?_
 have hres:Tryz.f81.results.toList = [.tmp 6]:=rfl
 have hrts:Tryz.f81.resultTypes.toList = [50]:=rfl
 simp only [List.length_cons,List.length_nil,jF,if_true,qV,qT,eL,eI,eLL,eB,Nat.zero_add,Nat.reduceAdd]
 intro M og cap
 refine qJ.of ?_
 refine gw229 (Y5 hdr hd0 f0 f1 hem) ?_
 exact gw200
noncomputable def TDwE {code:List Int} (hc:jW code) (hl:code.length ≤ 1000000000):Tab Tryz.prog :=
 (Tab.none.pin 82 (nxtE code) (kP hc hl)).pin 81 (drwE code (drw2 (wG code))) (p_l06DrawAny hc hl).ok
def drawTm (code:List Int):Elt × Elt :=
 let d:=yL code (src0 code) 4 4
 let k:=nxtF code d.2 8
 (d.1,(yL code k.2 4 (4 + k.1 / 7)).1)
theorem drawTm_ok {code:List Int} (hc:jW code):EAOk 5 17 (drawTm code).1∧EAOk 5 18 (drawTm code).2:=by
 obtain ⟨h1,h2⟩:=yS0 hc (s:=src0 code) (parts:=4) (most:=4) (Nat.zero_le _) (by decide)
 have h3:=jU (n:=8) h2
 have h4:=jM hc (yL code (src0 code) 4 4).2 8
 obtain ⟨h5,_⟩:=yS0 hc (parts:=4) (most:=4 + (nxtF code (yL code (src0 code) 4 4).2 8).1 / 7) h3 (by decide)
 refine ⟨h1,⟨h5.len,fun q hq => ⟨(h5.ok q hq).1,?_⟩⟩⟩
 have h6:=(h5.ok q hq).2
 have h7:=h6.sum
 have h8:=h6.len
 exact ⟨by omega,by omega⟩
theorem kN0 {code:List Int} (hc:jW code) (hl:code.length ≤ 1000000000):AFn Tryz.prog 29 [eCode code] (· = [.own 2 ((drawTm code).1.map ePt) false,.own 2 ((drawTm code).2.map ePt) false]):=by
 have hfrom:=p_l01From hc hl
 have hs:(src0 code).1 ≤ code.length:=Nat.zero_le _
 obtain ⟨_,h2⟩:=yS0 hc (s:=src0 code) (parts:=4) (most:=4) hs (by decide)
 have hd1:=drw2_eq (G:=wG code) hs (a:=4) (m:=4) (by decide)
 have hd2:=yG code (yL code (src0 code) 4 4).2 8 h2
 have hbd:=jM hc (yL code (src0 code) 4 4).2 8
 have hat:=jU (n:=8) h2
 unfold drawTm
 have e1:wG code (src0 code) 4 4 = ([.own 2 ((yL code (src0 code) 4 4).1.map ePt) false],(yL code (src0 code) 4 4).2):=rfl
 rw [e1] at hd1
 obtain ⟨⟨d,s1⟩,hp⟩:∃ p,p = yL code (src0 code) 4 4:=⟨_,rfl⟩
 rw [← hp] at hd1 hd2 hbd hat h2 ⊢
 simp only at hd1 hd2 hbd hat h2 ⊢
 obtain ⟨⟨k,s2⟩,hk⟩:∃ p,p = nxtF code s1 8:=⟨_,rfl⟩
 rw [← hk] at hd2 hbd hat ⊢
 simp only [eI] at hd2 hbd hat ⊢
 have hq7:k.tdiv 7 = k / 7:=Int.tdiv_eq_ediv_of_nonneg (by omega)
 have hw7:w64 (4 + k / 7) = 4 + k / 7:=qE (by omega)
 have hw8:w64 (k / 7) = k / 7:=qE (by omega)
 have hd3:=drw2_eq (G:=wG code) hat (a:=4) (m:=4 + k / 7) (by omega)
 have e2:wG code s2 4 (4 + k / 7) = ([.own 2 ((yL code s2 4 (4 + k / 7)).1.map ePt) false],(yL code s2 4 (4 + k / 7)).2):=rfl
 rw [e2] at hd3
 obtain ⟨⟨e,s3⟩,hq⟩:∃ p,p = yL code s2 4 (4 + k / 7):=⟨_,rfl⟩
 rw [← hq] at hd3 ⊢
 simp only at hd3 ⊢
 simp only [eCode,dCode] at hfrom ⊢
 refine AFn.of_runs (qQ 15) Tryz.func29 rfl rfl rfl gz ?_
 have hres:Tryz.f29.results.toList = [.tmp 2,.tmp 3]:=rfl
 have hrts:Tryz.f29.resultTypes.toList = [50,50]:=rfl
 simp only [qV,qT,eL,eI,eLL,eB,Nat.zero_add,Nat.reduceAdd,eCode,dCode]
 intro M
 refine qJ.of ?_
 ((refine gw222 ?_);with_reducible (apply QS (qQ 15) Tab.none;refine QW ?_;simp only [Zg,Zi,seval,reduceCtorEq,Nat.reduceEqDiff];rfl);(refine gw222 ?_))
 ((refine gw222 ?_);(with_reducible refine qJ.regCut (qQ 15) Tab.none 1 (s1:=?_) ?_ ?_);rotate_left 1;(focus ((with_reducible refine QW ?_);simp only [Zg,Zi,seval,reduceCtorEq,Nat.reduceEqDiff];with_reducible rfl));simp only [List.toList_toArray,List.drop_succ_cons,List.drop_zero])
 refine qZ.callR (qQ 15) rfl (d:=6) rfl (by decide) rfl rfl rfl rfl hfrom rfl ?_
 intro b
 (refine qZ.opsT (qQ 15) (T:=Tab.none) (s':=?_) ?_ ?_;rotate_left 1;focus (simp only [Zg,Zi,seval,reduceCtorEq,Nat.reduceEqDiff];with_reducible rfl))
 refine gw232 (Y7 hd1 hd2 hd3 hq7 hw7 hw8 (show ((7:Int) = 0) = False from eq_false (by decide))) ?_
 exact gw2
theorem getD_ltn {l:List Int} {i:Nat} (h:i < l.length):l.getD i 0 = l[i]:=by rw [List.getD_eq_getElem?_getD,List.getElem?_eq_getElem h];rfl
theorem mapI_get {l:List Int} {i:Nat} (h:i < l.length):(l.map eI)[i]? = some [.int (l.getD i 0)]:=by rw [List.getElem?_map,List.getElem?_eq_getElem h,getD_ltn h];rfl
theorem a_likeInts (xs ys:List Int) (hsz:xs.length ≤ 1000000000):AFn Tryz.prog 101 [eL xs,eL ys] (· = [.val (.bool (decide (xs = ys)))]):=by
 have hx:(xs.map eI).length = xs.length:=List.length_map _
 have hy:(ys.map eI).length = ys.length:=List.length_map _
 by_cases hl:xs.length = ys.length
 rotate_left
 ·have hne:xs ≠ ys:=fun e => hl (by rw [e])
  have b:(((xs.length:Nat):Int) != ((ys.length:Nat):Int)) = true:=bne_iff_ne.2 (by omega)
  rw [decide_eq_false hne]
  refine AFn.of_runs (qQ 26) Tryz.func101 rfl rfl rfl gz ?_
  have hres:Tryz.f101.results.toList = [.tmp 4]:=rfl
  have hrts:Tryz.f101.resultTypes.toList = [4]:=rfl
  simp only [qV,qT,eL,eI,eLL,eB,Nat.zero_add,Nat.reduceAdd]
  intro M
  refine qJ.of ?_
  refine gw233 (Y3 b hx hy) ?_
  exact gw2
 have b:(((ys.length:Nat):Int) != ((ys.length:Nat):Int)) = false:=by simp
 refine AFn.of_runs (qQ 26) Tryz.func101 rfl rfl rfl gz ?_
 have hres:Tryz.f101.results.toList = [.tmp 4]:=rfl
 have hrts:Tryz.f101.resultTypes.toList = [4]:=rfl
 simp only [qV,qT,eL,eI,eLL,eB,Nat.zero_add,Nat.reduceAdd]
 intro M
 refine qJ.of ?_
 refine gw233 (Y4 b hx hy hl) ?_
 refine qJ.loop (β:=Nat) (γ:=Unit) (fun i => ⟨[(0,.c (.val (.sl 1 (xs.map eI)))),(1,.c (.val (.sl 1 (ys.map eI)))),(5,.c (.val (.int i)))],[]⟩) (fun i => i ≤ xs.length∧xs.take i = ys.take i) (fun i => xs.length - i)
  (fun _ => ⟨[],[]⟩) (fun _ => xs = ys) 0 ⟨Nat.zero_le _,rfl⟩ ?_ ?_ ?_
 ·exact gw234
 ·rintro i ⟨hi,ht⟩
  have hw:=qB (n:=i) (by omega)
  by_cases h:i < xs.length
  ·have i1:((i:Int) < (ys.length:Int)) = True:=eq_true (by omega)
   have i2:((0:Int) ≤ (i:Int)) = True:=eq_true (by omega)
   have g1:=mapI_get h
   have g2:=mapI_get (l:=ys) (i:=i) (by omega)
   by_cases he:xs.getD i 0 = ys.getD i 0
   ·have e0:(xs.getD i 0 != ys.getD i 0) = false:=by rw [he];simp only [bne_self_eq_false]
    refine gw235 (Y9 i1 i2 g1 g2 hx hy hl hw e0) ?_
    refine qY.on (i + 1) ⟨⟨h,?_⟩,by omega⟩ ?_
    ·rw [getD_ltn h,getD_ltn (by omega)] at he
     rw [List.take_succ_eq_append_getElem h,List.take_succ_eq_append_getElem (by omega),ht,he]
    exact gw7 Y0
   ·have e0:(xs.getD i 0 != ys.getD i 0) = true:=bne_iff_ne.2 he
    have hne:xs ≠ ys:=fun e => he (by rw [e])
    rw [decide_eq_false hne]
    refine gw235 (Y9 i1 i2 g1 g2 hx hy hl hw e0) ?_
    refine qY.ret ?_
    refine gw233 Y0 ?_
    exact gw2
  ·have i1:((i:Int) < (ys.length:Int)) = False:=eq_false (by omega)
   refine gw233 (Y3 i1 hx hl) ?_
   refine qY.out () ?_ ?_
   ·rw [List.take_of_length_le (by omega),List.take_of_length_le (by omega)] at ht
    exact ht
   exact gw7 Y0
 ·intro _ he
  rw [decide_eq_true he]
  refine gw233 Y0 ?_
  exact gw2
theorem a_same9 (f g:List (List Int)) (hf:f.length ≤ 1000000000) (hg:g.length ≤ 1000000000) (hsz:∀ t ∈ f,t.length ≤ 1000000000):AFn Tryz.prog 45 [eLL f,eLL g] (· = [.val (.bool (decide (f = g)))]):=by
 have hfm:(f.map eL).length = f.length:=List.length_map _
 have hgm:(g.map eL).length = g.length:=List.length_map _
 refine AFn.of_runs (qQ 27) Tryz.func45 rfl rfl rfl gz ?_
 have hres:Tryz.f45.results.toList = [.tmp 4]:=rfl
 have hrts:Tryz.f45.resultTypes.toList = [4]:=rfl
 simp only [qV,qT,eL,eI,eLL,eB,Nat.zero_add,Nat.reduceAdd]
 intro M
 refine qJ.of ?_
 by_cases hl:f.length = g.length
 ·have hb:((f.length:Int) != (g.length:Int)) = false:=by simp [hl]
  refine gw236 (Y3 hfm hgm hb) ?_
  refine qJ.loop (β:=Nat) (γ:=Unit) (fun i => ⟨[(0,.c (.val (.sl 1 (f.map eL)))),(1,.c (.val (.sl 1 (g.map eL)))),(5,.c (.val (.int i)))],[]⟩) (fun i => i ≤ f.length∧f.take i = g.take i) (fun i => f.length - i)
   (fun _ => ⟨[],[]⟩) (fun _ => f = g) 0 ⟨Nat.zero_le _,rfl⟩ ?_ ?_ ?_
  ·exact gw234
  ·rintro i ⟨hi,ht⟩
   have hw:=qB (n:=i) (by omega)
   by_cases h:i < f.length
   ·have h2:i < g.length:=by omega
    have i1:((i:Int) < (f.length:Int)) = True:=eq_true (by omega)
    have i1':((i:Int) < (g.length:Int)) = True:=eq_true (by omega)
    have i2:((0:Int) ≤ (i:Int)) = True:=eq_true (by omega)
    obtain ⟨s,hs⟩:∃ s,s = f[i]:=⟨_,rfl⟩
    obtain ⟨t,htt⟩:∃ t,t = g[i]:=⟨_,rfl⟩
    have hgs:(f.map eL)[i]? = some [.sl 1 (s.map eI)]:=by rw [qD h,hs];rfl
    have hgt:(g.map eL)[i]? = some [.sl 1 (t.map eI)]:=by rw [qD h2,htt];rfl
    have hsm:=a_likeInts s t (by rw [hs];exact hsz _ (List.getElem_mem _))
    simp only [eL] at hsm
    by_cases hst:s = t
    ·rw [decide_eq_true hst] at hsm
     refine gw237 (Y8 hfm hgm i1 i1' i2 hgs hgt hw) ?_
     refine qY.on (i + 1) ⟨⟨h,?_⟩,by omega⟩ ?_
     ·rw [List.take_succ_eq_append_getElem h,List.take_succ_eq_append_getElem h2,ht,← hs,← htt,hst]
     ·exact gw7 Y0
    ·rw [decide_eq_false hst] at hsm
     have hne:f ≠ g:=fun e => hst (by rw [hs,htt];subst e;rfl)
     rw [decide_eq_false hne]
     refine gw237 (Y8 hfm hgm i1 i1' i2 hgs hgt hw) ?_
     refine qY.ret ?_
     refine gw236 Y0 ?_
     exact gw2
   ·have i1:((i:Int) < (f.length:Int)) = False:=eq_false (by omega)
    obtain rfl:i = f.length:=by omega
    refine gw236 (Yp hfm i1) ?_
    refine qY.out () ?_ ?_
    ·rw [List.take_length,hl,List.take_length] at ht;exact ht
    ·exact gw7 Y0
  ·rintro _ hfg
   rw [decide_eq_true hfg]
   refine gw236 Y0 ?_
   exact gw2
 ·have hb:((f.length:Int) != (g.length:Int)) = true:=by simp;omega
  have hne:f ≠ g:=fun e => hl (by rw [e])
  rw [decide_eq_false hne]
  refine gw236 (Y3 hfm hgm hb) ?_
  exact gw2
def SzE (d:Elt):Prop:=d.length ≤ 1000000∧∀ q ∈ d,q.2.length ≤ 1000000∧∀ t ∈ q.2,t.length ≤ 1000000
theorem a_likeParts9 (d e:Elt) (hd:SzE d) (he:SzE e):AFn Tryz.prog 35 [[.sl 2 (d.map ePt)],[.sl 2 (e.map ePt)]] (· = [.val (.bool (decide (d = e)))]):=by
 have hdm:(d.map ePt).length = d.length:=List.length_map _
 have hem:(e.map ePt).length = e.length:=List.length_map _
 obtain ⟨hd1,hd2⟩:=hd
 obtain ⟨he1,he2⟩:=he
 refine AFn.of_runs (qQ 42) Tryz.func35 rfl rfl rfl gz ?_
 have hres:Tryz.f35.results.toList = [.tmp 4]:=rfl
 have hrts:Tryz.f35.resultTypes.toList = [4]:=rfl
 simp only [qV,qT,eL,eI,eLL,eB,Nat.zero_add,Nat.reduceAdd]
 intro M
 refine qJ.of ?_
 by_cases hl:d.length = e.length
 rotate_left
 ·have hb:((d.length:Int) != (e.length:Int)) = true:=by simp;omega
  have hne:d ≠ e:=fun h => hl (by rw [h])
  rw [decide_eq_false hne]
  refine gw238 (Y3 hdm hem hb) ?_
  exact gw2
 have hb:((d.length:Int) != (e.length:Int)) = false:=by simp [hl]
 refine gw238 (Y3 hdm hem hb) ?_
 refine qJ.loop (β:=Nat) (γ:=Unit) (fun i => ⟨[(0,.c (.val (.sl 2 (d.map ePt)))),(1,.c (.val (.sl 2 (e.map ePt)))),(5,.c (.val (.int i)))],[]⟩) (fun i => i ≤ d.length∧d.take i = e.take i) (fun i => d.length - i)
  (fun _ => ⟨[],[]⟩) (fun _ => d = e) 0 ⟨Nat.zero_le _,rfl⟩ ?_ ?_ ?_
 ·exact gw234
 ·rintro i ⟨hi,ht⟩
  have hw:=qB (n:=i) (by omega)
  by_cases h:i < d.length
  ·have h2:i < e.length:=by omega
   have i1:((i:Int) < (d.length:Int)) = True:=eq_true (by omega)
   have i1':((i:Int) < (e.length:Int)) = True:=eq_true (by omega)
   have i2:((0:Int) ≤ (i:Int)) = True:=eq_true (by omega)
   obtain ⟨⟨a,f⟩,hs⟩:∃ s,s = d[i]:=⟨_,rfl⟩
   obtain ⟨⟨b,g⟩,htt⟩:∃ t,t = e[i]:=⟨_,rfl⟩
   have hgs:(d.map ePt)[i]? = some [.int a,.sl 1 (f.map eL)]:=by rw [qD h,← hs];rfl
   have hgt:(e.map ePt)[i]? = some [.int b,.sl 1 (g.map eL)]:=by rw [qD h2,← htt];rfl
   obtain ⟨f1,f2⟩:=hd2 (a,f) (by rw [hs];exact List.getElem_mem _)
   obtain ⟨g1,_⟩:=he2 (b,g) (by rw [htt];exact List.getElem_mem _)
   have hsm:=a_same9 f g (by simp only at f1;omega) (by simp only at g1;omega) (fun t ht => by have:=f2 t ht;omega)
   simp only [eLL] at hsm
   have hret:(a,f) ≠ (b,g)→d ≠ e:=fun hn he => hn (by rw [hs,htt];subst he;rfl)
   by_cases hab:a = b
   ·subst hab
    have haa:(a != a) = false:=by simp
    by_cases hst:f = g
    ·rw [decide_eq_true hst] at hsm
     refine gw239 (Y9 hdm hem i1 i1' i2 hgs hgt haa hw) ?_
     refine qY.on (i + 1) ⟨⟨h,?_⟩,by omega⟩ ?_
     ·rw [List.take_succ_eq_append_getElem h,List.take_succ_eq_append_getElem h2,ht,← hs,← htt,hst]
     ·exact gw7 Y0
    ·rw [decide_eq_false hst] at hsm
     rw [decide_eq_false (hret fun h => hst (Prod.ext_iff.1 h).2)]
     refine gw239 (Y9 hdm hem i1 i1' i2 hgs hgt haa hw) ?_
     refine qY.ret ?_
     refine gw238 Y0 ?_
     exact gw2
   ·have haa:(a != b) = true:=bne_iff_ne.2 hab
    rw [decide_eq_false (hret fun h => hab (Prod.ext_iff.1 h).1)]
    refine gw239 (Y9 hdm hem i1 i1' i2 hgs hgt haa hw) ?_
    refine qY.ret ?_
    refine gw238 Y0 ?_
    exact gw2
  ·have i1:((i:Int) < (d.length:Int)) = False:=eq_false (by omega)
   obtain rfl:i = d.length:=by omega
   refine gw238 (Yp hdm i1) ?_
   refine qY.out () ?_ ?_
   ·rw [List.take_length,hl,List.take_length] at ht;exact ht
   ·exact gw7 Y0
 ·rintro _ hfg
  rw [decide_eq_true hfg]
  refine gw238 Y0 ?_
  exact gw2
theorem AFn.valT2 {P:Program} {f:FuncId} {ds:List (List D)} {k:Nat} {xs:List (List D)} {c:Int} (h:AFn P f ds (· = [.own k xs true,.val (.int c)])):AFn P f ds (· = [.val (.sl k xs),.val (.int c)]):=by
 refine ⟨h.call,fun A w vs hA hr => (h.fn A w vs hA hr).mono ?_⟩
 rintro e w' ⟨v,rs,rfl,rfl,hb,us,G,X,rfl,hG1,hG2,hrel⟩
 obtain ⟨v1,us1,G1,G2,Y1,Y2,rfl,e1,e2,ho,⟨og,cap,F,dd,rfl,hrow,hk,e3,e4,hel⟩,hrest⟩:=hrel
 have hel:ownR k w' dd xs F:=hel
 have hv:=kH.2 ⟨og,dd,F,hrow,hel,rfl⟩
 obtain ⟨v2,us2,G3,G4,Y3,Y4,rfl,f1,f2,ho2,⟨hv2,f3,f4⟩,hend⟩:=hrest
 have hend:us2 = []∧G4 = []∧Y4 = []:=hend
 obtain ⟨rfl,rfl,rfl⟩:=hend
 refine ⟨_,_,rfl,rfl,hb,[_,_],[],[],rfl,List.nodup_nil,(fun b hb => nomatch hb),_,[_],[],[],[],[],rfl,rfl,rfl,ho,⟨?_,rfl,rfl⟩,_,[],[],[],[],[],rfl,rfl,rfl,ho2,⟨jY.2 (jY.1 hv2),rfl,rfl⟩,rfl,rfl,rfl⟩
 exact hv.rd.mono (fun b hb _ => ⟨.inr (hG2 b (by
  rw [e1,e3]
  exact List.mem_append_left _ (by simpa using hb))),by simp⟩)
theorem AFn.valF2 {P:Program} {f:FuncId} {ds:List (List D)} {k:Nat} {xs:List (List D)} {c:Int} (h:AFn P f ds (· = [.own k xs false,.val (.int c)])):AFn P f ds (· = [.val (.sl k xs),.val (.int c)]):=by
 refine ⟨h.call,fun A w vs hA hr => (h.fn A w vs hA hr).mono ?_⟩
 rintro e w' ⟨v,rs,rfl,rfl,hb,us,G,X,rfl,hG1,hG2,hrel⟩
 obtain ⟨v1,us1,G1,G2,Y1,Y2,rfl,e1,e2,ho,⟨og,cap,F,dd,rfl,hrow,hk,e3,e4,hel⟩,hrest⟩:=hrel
 obtain ⟨v2,us2,G3,G4,Y3,Y4,rfl,f1,f2,ho2,⟨hv2,f3,f4⟩,hend⟩:=hrest
 have hend:us2 = []∧G4 = []∧Y4 = []:=hend
 obtain ⟨rfl,rfl,rfl⟩:=hend
 have hel:rdR k (fun b => (A b ∨ w.heap.size ≤ b)∧b ∉ X) w' dd xs:=hel
 refine ⟨_,_,rfl,rfl,hb,[_,_],[],[],rfl,List.nodup_nil,(fun b hb => nomatch hb),_,[_],[],[],[],[],rfl,rfl,rfl,ho,⟨?_,rfl,rfl⟩,_,[],[],[],[],[],rfl,rfl,rfl,ho2,⟨jY.2 (jY.1 hv2),rfl,rfl⟩,rfl,rfl,rfl⟩
 obtain ⟨oa,c',e,h1,h2,h3,h4⟩:=vI hrow
 refine yN.2 ⟨oa,c',dd,e,h1,h2,h3,hel.mono (fun b hb _ => ⟨hb.1,by simp⟩),?_⟩
 cases og with
 | none =>
  left
  have:=hrow.len0
  exact List.eq_nil_of_length_eq_zero (by rw [hrow.1,this,Nat.zero_mul])
 | some g =>
  refine .inr ⟨g,0,h4,⟨.inr (hG2 g (by rw [e1,e3];simp)),by simp⟩,fun j u hj => ?_⟩
  rw [Nat.zero_add]
  exact hrow.cells j u hj
theorem AFn.valB2 {P:Program} {f:FuncId} {ds:List (List D)} {k:Nat} {xs:List (List D)} {c:Int} {b:Bool} (h:AFn P f ds (· = [.own k xs b,.val (.int c)])):AFn P f ds (· = [.val (.sl k xs),.val (.int c)]):=by
 cases b with
 | true => exact h.valT2
 | false => exact h.valF2
theorem a_spec_CopV (e:Elt) (hz:szP e):AFn Tryz.prog 43 [[.sl 2 (e.map ePt)]] (· = [.val (.sl 3 ((copOf e).1.map eTe)),.val (.int (copOf e).2)]):=by
 obtain ⟨r,hr,h⟩:=kR0 e hz
 rcases hr with rfl|rfl|rfl
 ·exact h.valT2
 ·exact h.valF2
 ·exact h
noncomputable def TCs:Tab Tryz.prog:=by
 classical
 exact (Tab.none.add 42 (tab1 (codS 2 codPt) fun e => if szP e then some [.val (.sl 3 ((copOf e).1.map eTe)),.val (.int (copOf e).2)] else none) (jO fun e rs h => by split at h;cases h;rename_i hs;exact AFn.valT2 (kP0 e hs);cases h)).add
  43 (tab1 (codS 2 codPt) fun e => if szP e then some [.val (.sl 3 ((copOf e).1.map eTe)),.val (.int (copOf e).2)] else none) (jO fun e rs h => by split at h;cases h;rename_i hs;exact a_spec_CopV e hs;cases h)
theorem vO {e:Elt} (h:elB e = true):OkE e∧e.length ≤ 300∧∀ p ∈ e,p.2.length ≤ 8∧qX p.2 ≤ 8:=by
 obtain ⟨h1,h2,_,h4⟩:=yP h
 have h5:∀ p ∈ e,p.2.length ≤ 8∧qX p.2 ≤ 8:=fun p hp => ⟨jL0 (h4 p hp),(xU (h4 p hp)).1⟩
 exact ⟨fun q hq => ⟨h2.2 q hq,by have:=h5 q hq;exact ⟨by omega,by omega⟩⟩,h1,h5⟩
theorem a_ContainsFuncPt {α:Type} (e:α→List D) (d:α→D) (c0:α→Int) (f:α→List (List Int)) (p:α→Bool) (g:FuncId) (he:∀ x,e x = [.int (c0 x),d x]) (hun:∀ x,(d x).un = .sl 1 ((f x).map eL)) (hp:∀ x,AFn Tryz.prog g [[.int (c0 x),.sl 1 ((f x).map eL)]] (· = [.val (.bool (p x))])) (xs:List α) (hl:xs.length ≤ 1000000000) :
  AFn Tryz.prog 141 [[.sl 2 (xs.map e)],[.raw (.func (.func g) #[] #[])]] (· = [.val (.bool (xs.any p))]):=by
 have hidx:=kG0 e d c0 f p g he hun hp xs hl
 rcases hfi:fIdx p xs with _|i0
 ·rw [hfi] at hidx
  have hk:xs.any p = false:=List.any_eq_false.2 (fun x hx => by rw [vD.1 hfi x hx];decide)
  rw [hk]
  refine AFn.of_runs (qQ 9) Tryz.func141 rfl rfl rfl gz ?_
  have hres:Tryz.f141.results.toList = [.tmp 4]:=rfl
  have hrts:Tryz.f141.resultTypes.toList = [4]:=rfl
  simp only [qV,qT,eL,eI,eLL,eB,Nat.zero_add,Nat.reduceAdd]
  intro M
  refine qJ.of ?_
  refine gw240 (show ((-1:Int) ≥ 0) = False from eq_false (by decide)) ?_
  exact gw2
 ·rw [hfi] at hidx
  obtain ⟨hi0,hpi,_⟩:=jT0 hfi
  have hk:xs.any p = true:=List.any_eq_true.2 ⟨_,List.getElem_mem hi0,hpi⟩
  have i1:((i0:Int) ≥ 0) = True:=eq_true (by omega)
  rw [hk]
  refine AFn.of_runs (qQ 9) Tryz.func141 rfl rfl rfl gz ?_
  have hres:Tryz.f141.results.toList = [.tmp 4]:=rfl
  have hrts:Tryz.f141.resultTypes.toList = [4]:=rfl
  simp only [qV,qT,eL,eI,eLL,eB,Nat.zero_add,Nat.reduceAdd]
  intro M
  refine qJ.of ?_
  refine gw240 i1 ?_
  exact gw2
theorem a_limited1 (n:Int) (f:List (List Int)):AFn Tryz.prog 142 [[.int n,.sl 1 (f.map eL)]] (· = [.val (.bool (decide (jK f > 8)))]):=by
 have hn:=a_nodesIn f
 simp only [eLL] at hn
 refine AFn.of_runs (qQ 7) Tryz.func142 rfl rfl rfl gz ?_
 have hres:Tryz.f142.results.toList = [.tmp 2]:=rfl
 have hrts:Tryz.f142.resultTypes.toList = [4]:=rfl
 simp only [qV,qT,eL,eI,eLL,eB,Nat.zero_add,Nat.reduceAdd]
 intro M
 refine qJ.of ?_
 by_cases h:jK f > 8
 ·have i1:(jK f > 8) = True:=eq_true h
  rw [decide_eq_true h]
  refine gw241 i1 ?_
  exact gw2
 ·have i1:(jK f > 8) = False:=eq_false h
  rw [decide_eq_false h]
  refine gw241 i1 ?_
  exact gw2
theorem a_limited (L:Elt) (hl:L.length ≤ 100000) (hz:∀ z ∈ L,(0 ≤ z.1∧z.1 < 10007)∧SmF z.2):AFn Tryz.prog 77 [[.sl 2 (L.map ePt)]] (· = [.own 2 ((limS (sumS cmpF L)).1.map ePt) true,.val (.int (limS (sumS cmpF L)).2)]):=by
 have h1:=a_summed L hl (fun z hz' => ⟨(hz z hz').1,by have:=(hz z hz').2.1;omega,by have:=(hz z hz').2.2;omega⟩)
 have hok:OkE (sumS cmpF L):=qF0 OkE.nil hz
 have hsl:=qU0 L []
 simp only [List.length_nil] at hsl
 obtain ⟨S,hS⟩:∃ S,S = sumS cmpF L:=⟨_,rfl⟩
 have hsl:S.length ≤ 1000000000:=by rw [hS];show (addS cmpF [] L).length ≤ _;omega
 rw [← hS] at h1 hok ⊢
 have h2:=a_ContainsFuncPt ePt (fun z => .sl 1 (z.2.map eL)) (·.1) (·.2) (fun z => decide (jK z.2 > 8)) 142 (fun _ => rfl) (fun _ => rfl) (fun z => a_limited1 z.1 z.2) S hsl
 have hany:S.any (fun z => decide (jK z.2 > 8)) = !decide (∀ p ∈ S,qX p.2 ≤ 8):=by
  by_cases h:∀ p ∈ S,qX p.2 ≤ 8
  ·rw [decide_eq_true h]
   refine List.any_eq_false.2 (fun x hx => ?_)
   have:=h x hx
   rw [xI x.2 (by omega)]
   simp;omega
  ·rw [decide_eq_false h]
   have h':∃ p ∈ S,8 < qX p.2:=by
    refine Classical.byContradiction fun hn => h fun p hp => ?_
    refine Classical.byContradiction fun hq => hn ⟨p,hp,by omega⟩
   obtain ⟨p,hp,hq⟩:=h'
   refine List.any_eq_true.2 ⟨p,hp,?_⟩
   rw [xI p.2 (by have:=(hok p hp).2.2;omega)]
   exact decide_eq_true (by omega)
 rw [hany] at h2
 unfold limS
 refine AFn.of_runs (qQ 15) Tryz.func77 rfl rfl rfl gz ?_
 have hres:Tryz.f77.results.toList = [.tmp 2,.tmp 3]:=rfl
 have hrts:Tryz.f77.resultTypes.toList = [50,2]:=rfl
 simp only [qV,qT,eL,eI,eLL,eB,Nat.zero_add,Nat.reduceAdd]
 intro M
 refine qJ.of ?_
 by_cases hn:S.length ≤ 300
 ·have i1:((S.length:Int) > 300) = False:=eq_false (by omega)
  by_cases h8:∀ p ∈ S,qX p.2 ≤ 8
  ·rw [if_pos ⟨hn,h8⟩]
   rw [decide_eq_true h8] at h2
   refine gw242 i1 ?_
   exact gw2
  ·rw [if_neg (fun h => h8 h.2)]
   rw [decide_eq_false h8] at h2
   refine gw243 i1 ?_
   exact gw2
 ·have i1:((S.length:Int) > 300) = True:=eq_true (by omega)
  rw [if_neg (fun h => hn h.1)]
  refine gw244 i1 ?_
  exact gw2
theorem addS_app (d M N:Elt):addS cmpF d (M ++ N) = addS cmpF (addS cmpF d M) N:=by unfold addS;rw [List.foldl_append]
noncomputable def TEA:Tab Tryz.prog:=Tab.none.add 32 (tab1 (codS 2 codPt) fun e => if e.length + szN e ≤ 1048576 then some [.val (.bool (elB e))] else none) (jO fun e rs h => by split at h;cases h;rename_i hz;exact yD0 e hz;cases h)
noncomputable def TEAS:Tab Tryz.prog:=Tab.none.add 70 (tab1 (codS 2 codPt) fun e => if e.length + szN e ≤ 1048576 then some [.val (.bool (elB e))] else none) (jO fun e rs h => by split at h;cases h;rename_i hz;exact a_l06Is e hz;cases h)
end Go.Proofs.YtedgfkpfhonlpaaGreat
