/- Lemmas (13). -/
import Derived.Ground.SlsfProg
import Derived.Shelf.SlSortCmp.NoneTotal
import Derived.Shelf.SlSortCmp.WholeK
import Derived.Test.YtedgfkpfhonlpaaGreatZB0
import Derived.Test.YtedgfkpfhonlpaaGreatZB6
import Derived.Test.YtedgfkpfhonlpaaGreatZB7
import Derived.Test.YtedgfkpfhonlpaaGreatZB8
import Derived.Test.YtedgfkpfhonlpaaGreatZB9
import Derived.Test.YtedgfkpfhonlpaaGreatZB10
import Derived.Test.YtedgfkpfhonlpaaGreatZB11
import Derived.Test.YtedgfkpfhonlpaaGreatZB12
set_option maxHeartbeats 16000000
set_option maxRecDepth 100000
set_option linter.unusedSimpArgs false
set_option linter.unusedVariables false
namespace Go.Proofs.YtedgfkpfhonlpaaGreat
open Go.RowKit
theorem addTs_app (d M N:List (Int × Spl)):addS cmpTe d (M ++ N) = addS cmpTe (addS cmpTe d M) N:=by unfold addS;rw [List.foldl_append]
theorem copM_take {e:Elt} {i:Nat} (h:i < e.length):copM (e.take (i + 1)) = copM (e.take i) ++ copP e[i]:=by
 unfold copM
 rw [List.take_succ_eq_append_getElem h,List.flatMap_append];simp
theorem copP_len {p:Int × List (List Int)} (h:forB p.2 = true):(copP p).length ≤ 256:=by
 unfold copP
 rw [List.length_map]
 have h0:=(yC (prodS (p.2.map split))).len
 rw [List.length_map] at h0
 have h1:=vE (kX h) (xU h).1
 omega
theorem copP_ok {p:Int × List (List Int)} (h:forB p.2 = true):∀ q ∈ copP p,(0 ≤ q.1∧q.1 < 10007)∧SmS q.2:=fun q hq => by
 obtain ⟨z,hz,rfl⟩:=List.mem_map.1 hq
 have h1:=(xU h).1
 exact ⟨jR _,(((wN (kJ (kX h))) z hz).2.2.ha (by omega)).sm⟩
theorem copM_ok {e:Elt} (h:∀ p ∈ e,forB p.2 = true):∀ q ∈ copM e,(0 ≤ q.1∧q.1 < 10007)∧SmS q.2:=fun q hq => by
 obtain ⟨p,hp,hq⟩:=List.mem_flatMap.1 hq
 exact copP_ok (h p hp) q hq
theorem qT0:∀ (e:Elt),(∀ p ∈ e,forB p.2 = true)→(copM e).length ≤ 256 * e.length
 | [],_ => by simp [copM]
 | p :: e,h => by
  have h1:=copP_len (h p (by simp))
  have h2:=qT0 e (fun q hq => h q (by simp [hq]))
  unfold copM at h2 ⊢
  rw [List.flatMap_cons,List.length_append,List.length_cons,Nat.mul_succ];omega
instance (L:List (Int × Spl)):Decidable (OkT L):=inferInstanceAs (Decidable (∀ q ∈ L,(1 ≤ q.1∧q.1 < 10007)∧SmS q.2))
noncomputable def TCopS:Tab Tryz.prog :=
 (((Tab.none.add 99 (tab1 codI fun n => some [.val (.int (mP n))]) (jO fun n rs h => by cases h;exact a_l01Mod n)).add
   98 (tab2 codI codI fun a b => if -9223372036854775808 ≤ a * b∧a * b ≤ 9223372036854775807 then some [.val (.int (mP (a * b)))] else none) (yK fun a b rs h => by split at h;cases h;rename_i hs;exact jX0 a b hs;cases h)).add
   67 (tab1 codLL fun f => if SmF f then some [.val (.sl 1 (f.map eL))] else none) (jO fun f rs h => by split at h;cases h;rename_i hs;exact AFn.val1 (yA0 f (by have:=hs.1;omega) hs.b);cases h)).add
   97 (tab2 (codS 3 codTe) codTe fun L p => if L.length ≤ 1000000∧OkT L∧(0 ≤ p.1∧p.1 < 10007)∧SmS p.2 then some [.val (.sl 3 ((putS cmpTe L p.1 p.2).map eTe))] else none) (yK fun L p rs h => by
   split at h
   ·rename_i hs
    cases h
    exact a_l06Tensor L p.1 p.2 hs.1 hs.2.1 hs.2.2.1 hs.2.2.2
   ·cases h)
theorem kR0 (e:Elt) (hz:szP e):∃ r,(r = .own 3 ((copOf e).1.map eTe) true ∨ r = .own 3 ((copOf e).1.map eTe) false ∨ r = .val (.sl 3 ((copOf e).1.map eTe)))∧AFn Tryz.prog 43 [[.sl 2 (e.map ePt)]] (· = [r,.val (.int (copOf e).2)]):=by
 have h1:=a_l06Is e hz
 unfold copOf
 by_cases hE:elB e = true
 rotate_left
 ·have hE':elB e = false:=by simpa using hE
  rw [if_neg hE]
  rw [hE'] at h1
  refine ⟨.own 3 [] true,.inl rfl,?_⟩
  refine AFn.of_runs (qQ 61) Tryz.func43 rfl rfl rfl gz ?_
  have hres:Tryz.f43.results.toList = [.tmp 2,.tmp 3]:=rfl
  have hrts:Tryz.f43.resultTypes.toList = [65,2]:=rfl
  simp only [qV,qT,eL,eI,eLL,eB,Nat.zero_add,Nat.reduceAdd]
  intro M
  refine qJ.of ?_
  refine gw163 ?_
  exact gw2
 rw [hE] at h1
 rw [if_pos hE]
 obtain ⟨hl,_,_,hfo⟩:=yP hE
 have hbd:=(yP hE).2.1.2
 have hML:=qT0 e hfo
 have hpre:∀ i,(sumS cmpTe (copM (e.take i))).length ≤ 100000∧OkT (sumS cmpTe (copM (e.take i))):=fun i => by
  have h2:=qT0 (e.take i) (vL hfo)
  have h3:=addT_len (copM (e.take i)) []
  rw [List.length_take] at h2
  simp only [List.length_nil] at h3
  exact ⟨by show (addS cmpTe [] _).length ≤ _;omega,addT_ok OkT.nil (copM_ok (vL hfo))⟩
 have main:∀ fin:Bool,decide ((sumS cmpTe (copM e)).length ≤ 600) = fin→AFn Tryz.prog 43 [[.sl 2 (e.map ePt)]] (· = [bif fin then .val (.sl 3 ((sumS cmpTe (copM e)).map eTe)) else .own 3 [] true,.val (.int (bif fin then 0 else 3))]):=by
  intro fin hfin
  refine AFn.of_runs (qQ 61) Tryz.func43 rfl rfl rfl gz ?_
  have hres:Tryz.f43.results.toList = [.tmp 2,.tmp 3]:=rfl
  have hrts:Tryz.f43.resultTypes.toList = [65,2]:=rfl
  simp only [qV,qT,eL,eI,eLL,eB,Nat.zero_add,Nat.reduceAdd]
  intro M
  refine qJ.of ?_
  refine gw163 ?_
  refine qJ.frz 4 ?_
  refine qJ.fits (s0:=⟨[(0,.c (.val (.sl 2 (e.map ePt)))),(4,.c (.val (.sl 3 []))),(5,.c (.val (.int 0)))],[]⟩) ?_ ?_
  ·exact gw55
  refine qJ.loop (β:=Nat) (γ:=Unit) (fun i => ⟨[(0,.c (.val (.sl 2 (e.map ePt)))),(4,.c (.val (.sl 3 ((sumS cmpTe (copM (e.take i))).map eTe)))),(5,.c (.val (.int i)))],[]⟩) (fun i => i ≤ e.length) (fun i => e.length - i)
   (fun _ => ⟨[(4,.c (.val (.sl 3 ((sumS cmpTe (copM e)).map eTe))))],[]⟩) (fun _ => True) 0 (Nat.zero_le _) ?_ ?_ ?_
  ·exact gw56 (Yp (show copM [] = [] from rfl) (show sumS cmpTe [] = [] from rfl))
  ·intro i hi
   have hi:i ≤ e.length:=hi
   have hw:=qB (n:=i) (by omega)
   have hle:(e.map ePt).length = e.length:=List.length_map _
   by_cases h:i < e.length
   ·have i1:((i:Int) < (e.length:Int)) = True:=eq_true (by omega)
    have i2:((0:Int) ≤ (i:Int)) = True:=eq_true (by omega)
    obtain ⟨p,hp⟩:∃ p,p = e[i]:=⟨_,rfl⟩
    have hpf:=hfo e[i] (List.getElem_mem _)
    have hpb:=hbd e[i] (List.getElem_mem _)
    have hg:(e.map ePt)[i]? = some [.int p.1,.sl 1 (p.2.map eL)]:=by rw [qD h,hp];rfl
    have htk:sumS cmpTe (copM (e.take (i + 1))) = addS cmpTe (sumS cmpTe (copM (e.take i))) (copP p):=by
     rw [copM_take h,← hp];exact addTs_app _ _ _
    rw [← hp] at hpf hpb
    have hsm8:=(xU hpf).1
    have hfor:=xB0 8 (fun b a1 a2 a3 => a_l05Tree 8 (Nat.le_refl _) b a1 a2 a3) p.2 (fun b hb => ⟨kX hpf b hb,forB_can hpf b hb,by have:=jL hb;omega⟩) hsm8
    have hgood:=wN (kJ (kX hpf))
    have hGl:=copP_len hpf
    have hcok:=copP_ok hpf
    have hcd:copP p = (gathS (prodS (p.2.map split))).map fun z => (mP (p.1 * z.2),z.1):=rfl
    have hpl:=vE (kX hpf) hsm8
    obtain ⟨G,hG⟩:∃ G,G = gathS (prodS (p.2.map split)):=⟨_,rfl⟩
    rw [← hG] at hfor hgood hcd
    obtain ⟨r1,r2⟩:=hpre i
    obtain ⟨R,hR⟩:∃ R,R = sumS cmpTe (copM (e.take i)):=⟨_,rfl⟩
    rw [← hR] at htk r1 r2 ⊢
    simp only [eLL] at hfor
    have hGm:(G.map eSp).length = G.length:=List.length_map _
    have hGn:G.length ≤ 256:=by rw [hcd,List.length_map] at hGl;exact hGl
    refine gw164 (Y4 i1 i2 hg hle) ?_
    refine qJ.loop (β:=Nat) (γ:=Unit) (fun j => ⟨[(0,.c (.val (.sl 2 (e.map ePt)))),(4,.c (.val (.sl 3 ((addS cmpTe R ((copP p).take j)).map eTe)))),(5,.c (.val (.int i))),(6,.c (.val (.sl 3 (G.map eSp)))),(7,.c (.val (.int j)))],[]⟩) (fun j => j ≤ G.length) (fun j => G.length - j)
     (fun _ => ⟨[(0,.c (.val (.sl 2 (e.map ePt)))),(4,.c (.val (.sl 3 ((addS cmpTe R (copP p)).map eTe)))),(5,.c (.val (.int i)))],[]⟩) (fun _ => True) 0 (Nat.zero_le _) ?_ ?_ ?_
    ·exact gw149 (show addS cmpTe R [] = R from rfl)
    ·intro j hj
     have hj:j ≤ G.length:=hj
     have hwj:=qB (n:=j) (by omega)
     by_cases g:j < G.length
     ·have j1:((j:Int) < (G.length:Int)) = True:=eq_true (by omega)
      have j2:((0:Int) ≤ (j:Int)) = True:=eq_true (by omega)
      obtain ⟨z,hz⟩:∃ z,z = G[j]:=⟨_,rfl⟩
      obtain ⟨z1,z2,z3⟩:=hgood G[j] (List.getElem_mem _)
      have hgz:(G.map eSp)[j]? = some [.sl 1 (z.1.1.map eL),.sl 1 (z.1.2.map eL),.int z.2]:=by rw [qD g,hz];rfl
      have hgc:j < (copP p).length:=by rw [hcd,List.length_map];exact g
      have hst:addS cmpTe R ((copP p).take (j + 1)) = putS cmpTe (addS cmpTe R ((copP p).take j)) (mP (p.1 * z.2)) z.1:=by
       rw [List.take_succ_eq_append_getElem hgc,addT_snoc]
       simp only [hcd,List.getElem_map,← hz]
      rw [← hz] at z1 z2 z3
      have hha:=(z3.ha (by omega)).sm
      have hK1:(addS cmpTe R ((copP p).take j)).length ≤ 1000000:=by
       have h4:=addT_len ((copP p).take j) R
       rw [List.length_take] at h4;omega
      have hK2:OkT (addS cmpTe R ((copP p).take j)):=addT_ok r2 (fun q hq => hcok q (List.mem_of_mem_take hq))
      obtain ⟨K,hK⟩:∃ K,K = addS cmpTe R ((copP p).take j):=⟨_,rfl⟩
      rw [← hK] at hst hK1 hK2 ⊢
      have hmz:=mP_small (n:=z.2) (by omega) (by omega)
      have hb0:0 ≤ p.1 * z.2∧p.1 * z.2 ≤ 100140049:=by
       refine ⟨Int.mul_nonneg (by omega) (by omega),?_⟩
       have h5:=Int.mul_le_mul (show p.1 ≤ 10007 by omega) (show z.2 ≤ 10007 by omega) (by omega) (by decide)
       omega
      have t1:=eq_true (show -9223372036854775808 ≤ p.1 * z.2∧p.1 * z.2 ≤ 9223372036854775807 by omega)
      have t2:=eq_true hha.1
      have t3:=eq_true hha.2
      have t4:=eq_true (And.intro hK1 (And.intro hK2 (And.intro (jR (p.1 * z.2)) (show SmS (z.1.1,z.1.2) from hha))))
      refine gw165 (Y12 i1 i2 j1 j2 hg hgz hwj hle hGm hmz t1 (Y3 t2 t3 t4)) ?_
      refine qY.on (j + 1) ⟨g,by omega⟩ ?_
      rw [hst]
      exact gw7 Y0
     ·have j1:((j:Int) < (G.length:Int)) = False:=eq_false (by omega)
      obtain rfl:j = G.length:=by omega
      have hall:(copP p).take G.length = copP p:=List.take_of_length_le (by rw [hcd,List.length_map];exact Nat.le_refl _)
      rw [hall]
      refine gw166 (Yp j1 hGm) ?_
      refine qY.out () trivial ?_
      exact gw7 Y0
    ·rintro _ _
     refine gw166 hw ?_
     refine qY.on (i + 1) ⟨h,by omega⟩ ?_
     rw [htk]
     exact gw7 Y0
   ·have i1:((i:Int) < (e.length:Int)) = False:=eq_false (by omega)
    obtain rfl:i = e.length:=by omega
    rw [List.take_length]
    refine gw166 (Yp i1 hle) ?_
    refine qY.out () trivial ?_
    exact gw7 Y0
  ·rintro _ _
   cases fin with
   | true =>
    have hb:=of_decide_eq_true hfin
    have j1:(((sumS cmpTe (copM e)).length:Int) > 600) = False:=eq_false (by omega)
    refine gw167 j1 ?_
    (refine Ends.mk (by simp) (rs:=?_) (ks:=?_) hres hrts ?_ ?_ ?_;rotate_left 2;(focus (simp only [Ze,Zg,Zi,seval,reduceCtorEq,Nat.reduceEqDiff,cond_true];with_reducible rfl));(focus simp);focus (first|with_reducible rfl|(simp only [Zv,cond_true];done)))
   | false =>
    have hb:=of_decide_eq_false hfin
    have j1:(((sumS cmpTe (copM e)).length:Int) > 600) = True:=eq_true (by omega)
    refine gw167 j1 ?_
    (refine Ends.mk (by simp) (rs:=?_) (ks:=?_) hres hrts ?_ ?_ ?_;rotate_left 2;(focus (simp only [Ze,Zg,Zi,seval,reduceCtorEq,Nat.reduceEqDiff,cond_false,List.map_nil];with_reducible rfl));(focus simp);focus (first|with_reducible rfl|(simp only [Zv,cond_false,List.map_nil];done)))
 by_cases h6:(sumS cmpTe (copM e)).length ≤ 600
 ·rw [if_pos h6]
  exact ⟨_,.inr (.inr rfl),main true (decide_eq_true h6)⟩
 ·rw [if_neg h6]
  exact ⟨.own 3 [] true,.inl rfl,main false (decide_eq_false h6)⟩
end Go.Proofs.YtedgfkpfhonlpaaGreat
namespace Go.Proofs.YtedgfkpfhonlpaaGreat
open Go.RowKit
theorem kG0 {α:Type} (e:α→List D) (d:α→D) (c0:α→Int) (f:α→List (List Int)) (p:α→Bool) (g:FuncId) (he:∀ x,e x = [.int (c0 x),d x]) (hun:∀ x,(d x).un = .sl 1 ((f x).map eL)) (hp:∀ x,AFn Tryz.prog g [[.int (c0 x),.sl 1 ((f x).map eL)]] (· = [.val (.bool (p x))])) (xs:List α) (hl:xs.length ≤ 1000000000) :
  AFn Tryz.prog 197 [[.sl 2 (xs.map e)],[.raw (.func (.func g) #[] #[])]] (· = [.val (.int (idxI (fIdx p xs)))]):=by
 refine AFn.of_runs (qQ 19) Tryz.func197 rfl rfl rfl gz ?_
 have hres:Tryz.f197.results.toList = [.tmp 4]:=rfl
 have hrts:Tryz.f197.resultTypes.toList = [3]:=rfl
 simp only [qV,qT,eL,eI,eLL,eB,Nat.zero_add,Nat.reduceAdd]
 intro M
 refine qJ.of ?_
 have hle:(xs.map e).length = xs.length:=by simp
 refine gw152 hle ?_
 refine qJ.loop (β:=Nat) (γ:=Unit) (fun i => ⟨[(0,.c (.val (.sl 2 (xs.map e)))),(1,.c (.val (.raw (.func (.func g) #[] #[])))),(7,.c (.val (.int xs.length))),(8,.c (.val (.int i)))],[]⟩) (fun i => i ≤ xs.length∧∀ x ∈ xs.take i,p x = false) (fun i => xs.length - i)
  (fun _ => ⟨[],[]⟩) (fun _ => ∀ x ∈ xs,p x = false) 0 ⟨Nat.zero_le _,by simp⟩ ?_ ?_ ?_
 ·exact gw7 Y0
 ·rintro i ⟨hi,hlow⟩
  have hw:=qB (n:=i) (by omega)
  by_cases h:i < xs.length
  ·have hx:=hp xs[i]
   have hj:(xs.map e)[i]? = some [.int (c0 xs[i]),d xs[i]]:=by rw [qD h,he]
   have i1:((i:Int) < (xs.length:Int)) = True:=eq_true (by omega)
   have i2:((0:Int) ≤ (i:Int)) = True:=eq_true (by omega)
   by_cases hpx:p xs[i] = true
   ·repeat' (first|with_reducible (first|refine Q1 ?_|refine Q2 ?_|refine Q3 ?_|refine Q4 ?_|refine Q5 ?_|refine Q6 ?_|refine Q7 ?_|refine Q8 ?_|refine Q9 ?_|refine Qa ?_|refine Qb ?_|refine Qc ?_|refine Qd ?_|refine Qe ?_|refine Qf ?_|refine QO ?_|refine QV 9 ?_|refine QY 9 ?_)|with_reducible ((first|apply QS (qQ 19) (Tab.none.at' g hx)|apply QC);refine QW ?_;simp only [Zg,Zi,seval,reduceCtorEq,Nat.reduceEqDiff,hle,i1,i2,hj,hun,xG (hun _),xR (hun _),hpx,hw,eL,Int.toNat_natCast];rfl))
    refine qY.ret ?_
    refine gw152 Y0 ?_
    rw [fIdx_at h hpx hlow]
    exact gw153
   ·have hpx':p xs[i] = false:=by simpa using hpx
    repeat' (first|with_reducible (first|refine Q1 ?_|refine Q2 ?_|refine Q3 ?_|refine Q4 ?_|refine Q5 ?_|refine Q6 ?_|refine Q7 ?_|refine Q8 ?_|refine Q9 ?_|refine Qa ?_|refine Qb ?_|refine Qc ?_|refine Qd ?_|refine Qe ?_|refine Qf ?_|refine QO ?_|refine QV 9 ?_|refine QY 9 ?_)|with_reducible ((first|apply QS (qQ 19) (Tab.none.at' g hx)|apply QC);refine QW ?_;simp only [Zg,Zi,seval,reduceCtorEq,Nat.reduceEqDiff,hle,i1,i2,hj,hun,xG (hun _),xR (hun _),hpx',hw,eL,Int.toNat_natCast];rfl))
    refine qY.on (i + 1) ⟨⟨h,fun x hx => ?_⟩,by omega⟩ ?_
    ·rw [List.take_succ_eq_append_getElem h,List.mem_append,List.mem_singleton] at hx
     rcases hx with hx|rfl
     ·exact hlow x hx
     ·exact hpx'
    ·exact gw7 Y0
  ·have i1:((i:Int) < (xs.length:Int)) = False:=eq_false (by omega)
   refine gw152 (Yp hle i1) ?_
   refine qY.out () (fun x hx => hlow x (by rw [List.take_of_length_le (by omega)];exact hx)) ?_
   exact gw7 Y0
 ·rintro _ hno
  refine gw152 Y0 ?_
  rw [vD.2 hno]
  exact gw153
theorem a_DeleteFuncPt {α:Type} (e:α→List D) (d:α→D) (c0:α→Int) (f:α→List (List Int)) (p:α→Bool) (g:FuncId) (he:∀ x,e x = [.int (c0 x),d x]) (hun:∀ x,(d x).un = .sl 1 ((f x).map eL)) (hp:∀ x,AFn Tryz.prog g [[.int (c0 x),.sl 1 ((f x).map eL)]] (· = [.val (.bool (p x))])) (xs:List α) (hl:xs.length ≤ 1000000000) :
  AOw Tryz.prog 153 [] 2 (xs.map e) [[.raw (.func (.func g) #[] #[])]] (· = [.own 2 ((keepF p xs).map e) false]):=by
 have hidx:=kG0 e d c0 f p g he hun hp xs hl
 rcases hfi:fIdx p xs with _|i0
 ·rw [hfi] at hidx
  have hk:keepF p xs = xs:=List.filter_eq_self.2 (fun x hx => by rw [vD.1 hfi x hx];rfl)
  rw [hk]
  refine AOw.of_runs (qQ 42) Tryz.func153 rfl rfl rfl gz ?_
  have hres:Tryz.f153.results.toList = [.tmp 4]:=rfl
  have hrts:Tryz.f153.resultTypes.toList = [50]:=rfl
  simp only [List.length_cons,List.length_nil,List.nil_append,List.cons_append,qV,qT,eL,eI,eLL,eB,Nat.zero_add,Nat.reduceAdd]
  intro M
  refine qJ.of ?_
  refine gw168 Y0 ?_
  exact gw2
 ·rw [hfi] at hidx
  obtain ⟨hi0,hpi,hlow⟩:=jT0 hfi
  refine AOw.of_runs (qQ 42) Tryz.func153 rfl rfl rfl gz ?_
  have hres:Tryz.f153.results.toList = [.tmp 4]:=rfl
  have hrts:Tryz.f153.resultTypes.toList = [50]:=rfl
  simp only [List.length_cons,List.length_nil,List.nil_append,List.cons_append,qV,qT,eL,eI,eLL,eB,Nat.zero_add,Nat.reduceAdd]
  intro M
  refine qJ.of ?_
  have hne:((i0:Int) == -1) = false:=beq_eq_false_iff_ne.2 (by omega)
  have hw0:=qB (n:=i0) (by omega)
  refine gw168 (Yp hne hw0) ?_
  refine qJ.loop (β:=Nat × List (List D)) (γ:=List (List D)) (fun x => ⟨[(0,.c (.own 0 xs.length)),(1,.c (.val (.raw (.func (.func g) #[] #[])))),(5,.c (.val (.int (keepF p (xs.take x.1)).length))),(6,.c (.val (.int x.1)))],[(0,.row 2 x.2 false)]⟩)
   (fun x => x.1 ≤ xs.length∧x.2.length = xs.length∧(∀ r ∈ x.2,r.length = 2)∧x.2.take (keepF p (xs.take x.1)).length = (keepF p (xs.take x.1)).map e∧x.2.drop x.1 = (xs.drop x.1).map e) (fun x => xs.length - x.1)
   (fun L => ⟨[(0,.c (.own 0 xs.length)),(5,.c (.val (.int (keepF p xs).length)))],[(0,.row 2 L false)]⟩) (fun L => L.length = xs.length∧L.take (keepF p xs).length = (keepF p xs).map e) (i0 + 1,xs.map e) ⟨by omega,by simp,?_,?_,by rw [List.map_drop]⟩ ?_ ?_ ?_
  ·intro r hr
   obtain ⟨x,_,rfl⟩:=List.mem_map.1 hr
   rw [he];rfl
  ·have h1:keepF p (xs.take (i0 + 1)) = xs.take i0:=by
    rw [List.take_succ_eq_append_getElem hi0]
    unfold keepF
    rw [List.filter_append,List.filter_eq_self.2 (fun x hx => by rw [hlow x hx];rfl)]
    simp [hpi]
   show (xs.map e).take (keepF p (xs.take (i0 + 1))).length = (keepF p (xs.take (i0 + 1))).map e
   rw [h1,← List.map_take,List.length_take,Nat.min_eq_left (Nat.le_of_lt hi0)]
  ·have h1:(keepF p (xs.take (i0 + 1))).length = i0:=by
    rw [List.take_succ_eq_append_getElem hi0]
    unfold keepF
    rw [List.filter_append,List.filter_eq_self.2 (fun x hx => by rw [hlow x hx];rfl)]
    simp [hpi];omega
   exact gw7 h1
  ·rintro ⟨j,L⟩ ⟨hj,hL,hone,htk,hdr⟩
   have hj:j ≤ xs.length:=hj
   have hL:L.length = xs.length:=hL
   have htk:L.take (keepF p (xs.take j)).length = (keepF p (xs.take j)).map e:=htk
   have hdr:L.drop j = (xs.drop j).map e:=hdr
   have hw:=qB (n:=j) (by omega)
   have hcl:(keepF p (xs.take j)).length ≤ j:=by
    have:=List.length_filter_le (fun x => !p x) (xs.take j)
    unfold keepF
    rw [List.length_take] at this
    omega
   have hwc:=qB (n:=(keepF p (xs.take j)).length) (by omega)
   by_cases h:j < xs.length
   ·have hx:=hp xs[j]
    have hLj:L[j]? = some [.int (c0 xs[j]),d xs[j]]:=by
     have:(L.drop j)[0]? = ((xs.drop j).map e)[0]?:=by rw [hdr]
     rw [List.getElem?_drop,List.getElem?_map,List.getElem?_drop] at this
     simpa [h,he] using this
    have i1:((j:Int) < (xs.length:Int)) = True:=eq_true (by omega)
    have i2:((0:Int) ≤ (j:Int)) = True:=eq_true (by omega)
    have hsucc:keepF p (xs.take (j + 1)) = if p xs[j] = true then keepF p (xs.take j) else keepF p (xs.take j) ++ [xs[j]]:=by
     rw [List.take_succ_eq_append_getElem h]
     unfold keepF
     rw [List.filter_append]
     by_cases hpx:p xs[j] = true <;> simp [hpx]
    by_cases hpx:p xs[j] = true
    ·rw [if_pos hpx] at hsucc
     repeat' (first|with_reducible (first|refine Q1 ?_|refine Q2 ?_|refine Q3 ?_|refine Q4 ?_|refine Q5 ?_|refine Q6 ?_|refine Q7 ?_|refine Q8 ?_|refine Q9 ?_|refine Qa ?_|refine Qb ?_|refine Qc ?_|refine Qd ?_|refine Qe ?_|refine Qf ?_|refine QO ?_|refine QV 8 ?_|refine QY 8 ?_)|with_reducible ((first|apply QS (qQ 42) (Tab.none.at' g hx)|apply QC);refine QW ?_;simp only [Zg,Zi,seval,reduceCtorEq,Nat.reduceEqDiff,hL,i1,i2,hLj,hun,xG (hun _),xR (hun _),hpx,hw,eL,Int.toNat_natCast];rfl))
     refine qY.on (j + 1,L) ⟨⟨h,hL,hone,?_,?_⟩,by show xs.length - (j + 1) < xs.length - j;omega⟩ ?_
     ·rw [hsucc];exact htk
     ·show L.drop (j + 1) = (xs.drop (j + 1)).map e
      rw [← List.drop_drop,hdr,← List.map_drop,List.drop_drop]
     ·exact gw7 hsucc
    ·have hpx':p xs[j] = false:=by simpa using hpx
     rw [if_neg hpx] at hsucc
     obtain ⟨c,hc⟩:∃ c,c = (keepF p (xs.take j)).length:=⟨_,rfl⟩
     have hcs:(keepF p (xs.take (j + 1))).length = c + 1:=by rw [hsucc,hc];simp
     rw [← hc] at hwc hcl htk
     have hcL:c < L.length:=by omega
     obtain ⟨y,y2,hy⟩:∃ y y2,L[c] = [y,y2]:=by
      have:=hone L[c] (List.getElem_mem _)
      match L[c],this with
      | [y,y2],_ => exact ⟨y,y2,rfl⟩
     have hLc:L[c]? = some [y,y2]:=by rw [List.getElem?_eq_getElem hcL,hy]
     have i3:((c:Int) < (xs.length:Int)) = True:=eq_true (by omega)
     have i4:((0:Int) ≤ (c:Int)) = True:=eq_true (by omega)
     rw [← hc]
     repeat' (first|with_reducible (first|refine Q1 ?_|refine Q2 ?_|refine Q3 ?_|refine Q4 ?_|refine Q5 ?_|refine Q6 ?_|refine Q7 ?_|refine Q8 ?_|refine Q9 ?_|refine Qa ?_|refine Qb ?_|refine Qc ?_|refine Qd ?_|refine Qe ?_|refine Qf ?_|refine QO ?_|refine QV 8 ?_|refine QY 8 ?_)|with_reducible ((first|apply QS (qQ 42) (Tab.none.at' g hx)|apply QC);refine QW ?_;simp only [Zg,Zi,seval,reduceCtorEq,Nat.reduceEqDiff,hL,i1,i2,i3,i4,hLj,hLc,hun,xG (hun _),xR (hun _),hpx',hw,hwc,eL,Int.toNat_natCast];rfl))
     refine qY.on (j + 1,L.set c [.int (c0 xs[j]),d xs[j]]) ⟨⟨h,by simpa using hL,?_,?_,?_⟩,by show xs.length - (j + 1) < xs.length - j;omega⟩ ?_
     ·intro r hr
      rcases List.mem_or_eq_of_mem_set hr with hr|rfl
      ·exact hone r hr
      ·rfl
     ·show (L.set c [.int (c0 xs[j]),d xs[j]]).take (keepF p (xs.take (j + 1))).length = (keepF p (xs.take (j + 1))).map e
      rw [hcs,hsucc,List.map_append,List.take_succ_eq_append_getElem (by simpa using hcL),List.take_set_of_le (Nat.le_refl _),htk]
      simp [he]
     ·show (L.set c [.int (c0 xs[j]),d xs[j]]).drop (j + 1) = (xs.drop (j + 1)).map e
      rw [List.drop_set_of_lt (by omega),← List.drop_drop,hdr,← List.map_drop,List.drop_drop]
     ·exact gw7 hcs
   ·have i1:((j:Int) < (xs.length:Int)) = False:=eq_false (by omega)
    have hall:xs.take j = xs:=List.take_of_length_le (by omega)
    rw [hall] at htk ⊢
    refine gw169 (Yp hL i1) ?_
    refine qY.out L ⟨hL,htk⟩ ?_
    exact gw7 Y0
  ·rintro L ⟨hL,htk⟩
   have hcl:(keepF p xs).length ≤ xs.length:=List.length_filter_le _ _
   obtain ⟨c,hc⟩:∃ c,c = (keepF p xs).length:=⟨_,rfl⟩
   rw [← hc] at htk hcl ⊢
   have i1:((c:Int) ≤ (xs.length:Int)) = True:=eq_true (by omega)
   have i2:((0:Int) ≤ (c:Int)) = True:=eq_true (by omega)
   have i3:((xs.length:Int) ≤ (xs.length:Int)) = True:=eq_true (by omega)
   have htn:((xs.length:Int)).toNat = xs.length:=Int.toNat_natCast _
   refine gw169 Y0 ?_
   refine qJ.regCut (qQ 42) Tab.none 3 (s1:=?_) ?_ ?_
   rotate_left 1
   focus (refine Work.mk ?_;simp only [Zg,Zi,seval,reduceCtorEq,Nat.reduceEqDiff,hL,i1,i2,i3,Int.toNat_natCast];with_reducible rfl)
   simp only [List.toList_toArray,List.drop_succ_cons,List.drop_zero]
   refine qZ.clear (qQ 42) (x:=.tmp 38) (t:=50) (i:=⟨71,[.int 0,.sl 1 []],32⟩) (key:=0) (j:=c) (m:=xs.length - c) rfl rfl rfl rfl rfl rfl rfl (by rw [hL];omega) ?_
   refine qZ.nil ?_
   refine gw169 Y0 ?_
   refine qJ.regCut (qQ 42) Tab.none 2 (s1:=?_) ?_ ?_
   rotate_left 1
   focus (refine Work.mk ?_;simp only [Zg,Zi,seval,reduceCtorEq,Nat.reduceEqDiff];with_reducible rfl)
   simp only [List.toList_toArray,List.drop_succ_cons,List.drop_zero]
   refine qZ.trunc (qQ 42) (x:=.tmp 39) (hi:=.tmp 40) (t:=50) (i:=⟨71,[.int 0,.sl 1 []],32⟩) (d:=41) (key:=0) (m:=xs.length) (n:=c) rfl rfl rfl (by decide) rfl rfl rfl rfl (by simp [hL];omega) (fun q u hq hu => ?_) ?_
   ·simp only [look] at hu
    split at hu
    ·rename_i e;exact absurd e.symm hq
    ·cases hu
   ·have ht2:(L.take c ++ List.replicate (xs.length - c) [D.int 0,D.sl 1 []]).take c = (keepF p xs).map e:=by
     rw [List.take_append_of_le_length (by rw [List.length_take];omega),List.take_take,Nat.min_self,htk]
    rw [ht2]
    refine qZ.opsT (qQ 42) (T:=Tab.none) (s':=?_) ?_ ?_
    rotate_left 1
    focus (simp only [Zg,Zi,seval,reduceCtorEq,Nat.reduceEqDiff];with_reducible rfl)
    refine gw169 Y0 ?_
    exact gw2
end Go.Proofs.YtedgfkpfhonlpaaGreat
namespace Go.Proofs
open Go.Shelf
def Tryz.sortPt_ren:Go.Shelf.Ren:=⟨fun|6 => 150|15 => 160|14 => 200|28 => 212|29 => 213|20 => 233|21 => 234|22 => 235|23 => 236|24 => 237|25 => 238|26 => 239|27 => 240|46 => 266|47 => 251|48 => 252|49 => 267|50 => 268|57 => 277|n => n,fun|22 => 50|24 => 71|25 => 161|3 => 3|39 => 137|0 => 0|53 => 214|55 => 28|4 => 4|46 => 208|45 => 207|50 => 185|5 => 5|9 => 9|66 => 236|70 => 240|76 => 252|77 => 253|n => n,fun|n => n⟩
theorem Tryz.sortPt:Go.Proofs.SlLaysF0.n6 Tryz.prog Tryz.sortPt_ren:={
 mixed:=by kernel_rfl
 f6:=⟨Tryz.f150.name,by decide,Tryz.func150.trans (congrArg some (by kernel_rfl))⟩
 f14:=⟨Tryz.f200.name,by decide,Tryz.func200.trans (congrArg some (by kernel_rfl))⟩
 f15:=Tryz.func160.trans (congrArg some (by kernel_rfl))
 f20:=⟨Tryz.f233.name,by decide,Tryz.func233.trans (congrArg some (by kernel_rfl))⟩
 f21:=⟨Tryz.f234.name,by decide,Tryz.func234.trans (congrArg some (by kernel_rfl))⟩
 f22:=⟨Tryz.f235.name,by decide,Tryz.func235.trans (congrArg some (by kernel_rfl))⟩
 f23:=⟨Tryz.f236.name,by decide,Tryz.func236.trans (congrArg some (by kernel_rfl))⟩
 f24:=⟨Tryz.f237.name,by decide,Tryz.func237.trans (congrArg some (by kernel_rfl))⟩
 f25:=⟨Tryz.f238.name,by decide,Tryz.func238.trans (congrArg some (by kernel_rfl))⟩
 f26:=⟨Tryz.f239.name,by decide,Tryz.func239.trans (congrArg some (by kernel_rfl))⟩
 f27:=⟨Tryz.f240.name,by decide,Tryz.func240.trans (congrArg some (by kernel_rfl))⟩
 f28:=Tryz.func212.trans (congrArg some (by kernel_rfl))
 f29:=Tryz.func213.trans (congrArg some (by kernel_rfl))
 f46:=⟨Tryz.f266.name,by decide,Tryz.func266.trans (congrArg some (by kernel_rfl))⟩
 f47:=Tryz.func251.trans (congrArg some (by kernel_rfl))
 f48:=Tryz.func252.trans (congrArg some (by kernel_rfl))
 f49:=⟨Tryz.f267.name,by decide,Tryz.func267.trans (congrArg some (by kernel_rfl))⟩
 f50:=⟨Tryz.f268.name,by decide,Tryz.func268.trans (congrArg some (by kernel_rfl))⟩
 f57:=⟨Tryz.f277.name,by decide,Tryz.func277.trans (congrArg some (by kernel_rfl))⟩
 t0:=Tryz.underlying0
 a0:=Tryz.isAgg0
 z0:=Tryz.sizeOf0
 v0:=Tryz.zeroValue0
 t3:=Tryz.underlying3
 a3:=Tryz.isAgg3
 z3:=Tryz.sizeOf3
 v3:=Tryz.zeroValue3
 t4:=Tryz.underlying4
 a4:=Tryz.isAgg4
 z4:=Tryz.sizeOf4
 v4:=Tryz.zeroValue4
 t5:=Tryz.underlying5
 a5:=Tryz.isAgg5
 z5:=Tryz.sizeOf5
 v5:=Tryz.zeroValue5
 t9:=Tryz.underlying9
 a9:=Tryz.isAgg9
 z9:=Tryz.sizeOf9
 v9:=Tryz.zeroValue9
 t22:=Tryz.underlying50
 a22:=Tryz.isAgg50
 z22:=Tryz.sizeOf50
 v22:=Tryz.zeroValue50
 t25:=Tryz.underlying161
 a25:=Tryz.isAgg161
 z25:=Tryz.sizeOf161
 v25:=Tryz.zeroValue161
 t39:=Tryz.underlying137
 a39:=Tryz.isAgg137
 z39:=Tryz.sizeOf137
 v39:=Tryz.zeroValue137
 t45:=Tryz.underlying207
 a45:=Tryz.isAgg207
 z45:=Tryz.sizeOf207
 v45:=Tryz.zeroValue207
 t46:=Tryz.underlying208
 a46:=Tryz.isAgg208
 z46:=Tryz.sizeOf208
 v46:=Tryz.zeroValue208
 t50:=Tryz.underlying185
 a50:=Tryz.isAgg185
 z50:=Tryz.sizeOf185
 v50:=Tryz.zeroValue185
 t53:=Tryz.underlying214
 a53:=Tryz.isAgg214
 z53:=Tryz.sizeOf214
 v53:=Tryz.zeroValue214
 t55:=Tryz.underlying28
 a55:=Tryz.isAgg28
 z55:=Tryz.sizeOf28
 v55:=Tryz.zeroValue28
 t66:=Tryz.underlying236
 a66:=Tryz.isAgg236
 z66:=Tryz.sizeOf236
 v66:=Tryz.zeroValue236
 t70:=Tryz.underlying240
 a70:=Tryz.isAgg240
 z70:=Tryz.sizeOf240
 v70:=Tryz.zeroValue240
 t76:=Tryz.underlying252
 a76:=Tryz.isAgg252
 z76:=Tryz.sizeOf252
 v76:=Tryz.zeroValue252
 t77:=Tryz.underlying253
 a77:=Tryz.isAgg253
 z77:=Tryz.sizeOf253
 v77:=Tryz.zeroValue253 }
end Go.Proofs
namespace Go.Proofs.YtedgfkpfhonlpaaGreat
open Go.RowKit
theorem flatMap_get {α β:Type} (enc:α→List β) (k:Nat) (hk:∀ x,(enc x).length = k) (hp:0 < k):∀ (l:List α) (t:Nat),(l.flatMap enc)[t]? = (l[t / k]?).bind fun x => (enc x)[t % k]?
 | [],t => by simp
 | x :: l,t => by
  rw [List.flatMap_cons]
  by_cases h:t < k
  ·rw [List.getElem?_append_left (by rw [hk];exact h),Nat.div_eq_of_lt h,Nat.mod_eq_of_lt h];rfl
  ·rw [List.getElem?_append_right (by rw [hk];omega),hk,flatMap_get enc k hk hp l (t - k)]
   have e1:t / k = (t - k) / k + 1:=by rw [Nat.div_eq_sub_div hp (by omega)]
   have e2:t % k = (t - k) % k:=Nat.mod_eq_sub_mod (by omega)
   rw [e1,e2,List.getElem?_cons_succ]
theorem flatK_list {α:Type} [Inhabited α] (enc:α→List Value) (k:Nat) (hk:∀ x,(enc x).length = k) (hp:0 < k) (d:Array α):(Go.Sort.flatK enc k d).toList = d.toList.flatMap enc:=by
 have hl:∀ (l:List α),(l.flatMap enc).length = l.length * k:=by
  intro l
  induction l with
  | nil => simp
  | cons x l ih => rw [List.flatMap_cons,List.length_append,hk,ih,List.length_cons,Nat.succ_mul];omega
 refine List.ext_getElem? fun t => ?_
 by_cases h:t < d.size * k
 ·have hs:t < (Go.Sort.flatK enc k d).toList.length:=by simpa using h
  have hq:t / k < d.size:=Nat.div_lt_of_lt_mul (by rw [Nat.mul_comm];exact h)
  rw [flatMap_get enc k hk hp,List.getElem?_eq_getElem hs]
  have e1:=Go.Sort.get_flatK enc k d t h
  rw [getElem!_pos (Go.Sort.flatK enc k d) t (by simpa using h),getElem!_pos d (t / k) hq] at e1
  have hm:t % k < (enc d[t / k]).length:=by rw [hk];exact Nat.mod_lt _ hp
  rw [getElem!_pos (enc d[t / k]) (t % k) hm] at e1
  rw [List.getElem?_eq_getElem (by simpa using hq),Option.bind_some]
  simp only [Array.getElem_toList]
  rw [List.getElem?_eq_getElem hm,e1]
 ·rw [List.getElem?_eq_none (by simpa using h),List.getElem?_eq_none (by rw [hl];simpa using h)]
section
variable {α:Type} [Inhabited α] (enc:α→List Value) (k:Nat) (w:World) (blk m:Nat) (dk:Array α) (os:Array Go.Obj)
theorem sw_block {b:Nat} (hne:b ≠ blk) (hb:b < w.heap.size):(sortWorldK enc k w blk 0 m dk os).heap[b]? = w.heap[b]?:=by
 show ((w.heap.modify blk _) ++ os)[b]? = _
 rw [Array.getElem?_append_left (by simpa using hb),Array.getElem?_modify,if_neg (fun e => hne e.symm)]
theorem sw_size:w.heap.size ≤ (sortWorldK enc k w blk 0 m dk os).heap.size:=by
 show _ ≤ ((w.heap.modify blk _) ++ os).size
 simp
theorem sw_row {n cap:Nat} {ds:List Value} (h:Row w (slv (some blk) n cap) k n ds (some blk)) (hs:dk.size = n) (hlt:blk < w.heap.size) :
  Row (sortWorldK enc k w blk 0 m dk os) (slv (some blk) n cap) k n (Go.Sort.flatK enc k dk).toList (some blk):=by
 obtain ⟨h0,h⟩:=h
 rcases h with ⟨_,_,h⟩|⟨g,cap',cur,e,hv,hg,hh,hc1,hc2,hc3,hc4⟩
 ·cases h
 ·cases hg
  refine ⟨by simp [hs],.inr ⟨blk,cap',Sort.putCells id 0 (Go.Sort.flatK enc k dk) cur,e,hv,rfl,?_,hc1,hc2,by simpa [Sort.putCells] using hc3,?_⟩⟩
  ·show ((w.heap.modify blk _) ++ os)[blk]? = _
   rw [Array.getElem?_append_left (by simpa using hlt),Array.getElem?_modify,if_pos rfl,hh]
   rfl
  ·have hle:n * k ≤ cap' * k:=Nat.mul_le_mul_right k hc1
   refine List.ext_getElem? fun t => ?_
   by_cases ht:t < n * k
   ·rw [List.getElem?_take_of_lt ht,List.getElem?_eq_getElem (by simp [Sort.putCells];omega),List.getElem?_eq_getElem (by simp [hs];omega)]
    simp only [Array.getElem_toList,Sort.putCells,Array.getElem_mapIdx,id]
    rw [if_pos ⟨Nat.zero_le _,by simp [hs];omega⟩,Nat.sub_zero,getElem!_pos _ t (by simp [hs];omega)]
   ·rw [List.getElem?_eq_none (by simp;omega),List.getElem?_eq_none (by simp [hs];omega)]
end
abbrev PtC (A:Nat→Prop) (w:World):Type:={ x:(Int × Value) × List (List Int) // qH x.1.1∧(RS (RS RI)).rd A w [x.1.2] x.2∧qX x.2 ≤ 1000000 }
instance (A:Nat→Prop) (w:World):Inhabited (PtC A w):=⟨⟨((0,.slice none 0 0),[]),by show qH 0;unfold qH;omega,⟨none,0,[],rfl,Nat.le_refl _,by decide,fun _ => rfl,rfl,.inl rfl⟩,by simp [qX]⟩⟩
def PtC.enc {A:Nat→Prop} {w:World} (x:PtC A w):List Value:=[.int .i64 x.1.1.1,x.1.1.2]
def PtC.el {A:Nat→Prop} {w:World} (x:PtC A w):Int × List (List Int):=(x.1.1.1,x.1.2)
theorem ptc_of {A:Nat→Prop} {w:World}:∀ {zs:List (Int × List (List Int))} {ds:List Value},rdL RPart A w ds zs→(∀ z ∈ zs,qX z.2 ≤ 1000000)→∃ xs:List (PtC A w),ds = xs.flatMap PtC.enc∧zs = xs.map PtC.el
 | [],_,h,_ => ⟨[],h,rfl⟩
 | z :: zs,_,h,hz => by
  obtain ⟨c,d,e,⟨c1,c2,rfl,⟨rfl,hb⟩,hs⟩,h2⟩:=h
  obtain ⟨xs,e1,e2⟩:=ptc_of h2 (fun z hz' => hz z (by simp [hz']))
  have hl:=(RS (RS RI)).rd_len hs
  match c2,hl with
  | [s],_ =>
   have hzz:=hz z (by simp)
   exact ⟨⟨((z.1,s),z.2),hb,hs,hzz⟩ :: xs,by rw [e,e1];rfl,congrArg (z :: ·) e2⟩
theorem ptc_to {A:Nat→Prop} {w w':World} (hf:∀ b,A b→w'.heap[b]? = w.heap[b]?):∀ (xs:List (PtC A w)),rdL RPart A w' (xs.flatMap PtC.enc) (xs.map PtC.el)
 | [] => rfl
 | x :: xs => ⟨_,_,rfl,⟨[.int .i64 x.1.1.1],[x.1.1.2],rfl,⟨rfl,x.2.1⟩,(RS (RS RI)).rd_frame x.2.2.1 (fun b hb _ => hf b hb)⟩,ptc_to hf xs⟩
theorem swo_cmpF {A:Nat→Prop} {w:World}:Go.Sort.SWO (ltOf fun x y:PtC A w => cmpF x.1.2 y.1.2) where
 irrefl x:=decide_eq_false (by show ¬ cmpF x.1.2 x.1.2 < 0;rw [yX.refl];omega)
 trans x y z h1 h2:=decide_eq_true (by
  have h1:cmpF x.1.2 y.1.2 < 0:=of_decide_eq_true h1
  have h2:cmpF y.1.2 z.1.2 < 0:=of_decide_eq_true h2
  exact yX.lt_tr h1 h2)
 ntrans x y z h1 h2:=decide_eq_false (by
  have h1:¬ cmpF x.1.2 y.1.2 < 0:=of_decide_eq_false h1
  have h2:¬ cmpF y.1.2 z.1.2 < 0:=of_decide_eq_false h2
  show ¬ cmpF x.1.2 z.1.2 < 0
  intro h
  have a1:=yX.anti x.1.2 y.1.2
  have a2:=yX.anti y.1.2 z.1.2
  have:=yX.trans z.1.2 y.1.2 x.1.2 (by omega) (by omega)
  have a3:=yX.anti x.1.2 z.1.2
  omega)
theorem aggPt (w:World):(isAgg 71).run Tryz.prog w = .ok true w:=by
 simp [isAgg,run_underlying Tryz.underlying71]
theorem sizePt (w:World):(Go.sizeOf 71).run Tryz.prog w = .ok 2 w:=by
 obtain ⟨_,⟨i,hi,_,hs,_⟩,_,_⟩:=tPartI
 simp [Go.sizeOf,typeInfo,hi,hs]
theorem c_SortPart (g:Nat) (eg:∀ args w,(callFunc g args).run Tryz.prog w = .ok (.enter g args) w)
  (hcmp:∀ (W:World) (a b:Int) (u v:Value) (f h:List (List Int)),Rd (RS (RS RI)) W [u] f→Rd (RS (RS RI)) W [v] h→qX f ≤ 1000000→qX h ≤ 1000000 →
   Calls Tryz.prog g #[.agg #[.int .i64 a,u],.agg #[.int .i64 b,v]] W fun e w' => e = .returned (.int .i64 (cmpF f h))∧∃ q os',w' = Sort.grow (W.drewN q) os')
  {A:Nat→Prop} {w:World} {og:Option Nat} {cap:Nat} {ds:List Value} {zs:List (Int × List (List Int))} (hA:∀ b,A b→b < w.heap.size) (hog:∀ b,og = some b→¬ A b)
  (hrow:Row w (slv og zs.length cap) 2 zs.length ds og) (hrd:rdL RPart A w ds zs) (hsz:∀ z ∈ zs,qX z.2 ≤ 1000000) (hn:zs.length ≤ 1000000000) :
  Calls Tryz.prog 150 #[slv og zs.length cap,.func (.func g) #[] #[]] w fun e w' => e = .returned (.tuple #[])∧∃ zs',zs'.Perm zs∧zs'.Pairwise (fun a b => cmpF a.2 b.2 ≤ 0) ∧
   (∃ ds',Row w' (slv og zs.length cap) 2 zs.length ds' og∧rdL RPart A w' ds' zs')∧Bel ⟨w,fun b => og = some b⟩ w':=by
 cases og with
 | none =>
  have h0:=hrow.len0
  have hz:zs = []:=List.eq_nil_of_length_eq_zero h0
  subst hz
  refine (AnyF.slices_SortFunc_none Tryz.sortPt none 0 _ w).mono ?_
  rintro e w' ⟨rfl,rfl⟩
  exact ⟨rfl,[],List.Perm.refl _,List.Pairwise.nil,⟨ds,hrow,hrd⟩,rfl,rfl,rfl,Nat.le_refl _,fun _ _ _ => rfl⟩
 | some blk =>
  obtain ⟨xs,e1,e2⟩:=ptc_of hrd hsz
  have hlen:xs.toArray.size = zs.length:=by rw [e2];simp
  have hlt:=hrow.lt blk rfl
  have hH:Go.Sort.HoldsK PtC.enc 2 w blk 0 xs.toArray:=fun j hj => by
   rw [Nat.zero_add]
   refine ⟨?_,hrow.frozen j⟩
   have hf:=flatK_list (PtC.enc (A:=A) (w:=w)) 2 (fun _ => rfl) (by decide) xs.toArray
   rw [List.toList_toArray] at hf
   rw [getElem!_pos _ j hj]
   refine hrow.cells j _ ?_
   rw [e1,← hf,List.getElem?_eq_getElem (by simpa using hj)]
   simp
  have hC:CmpLays Tryz.prog g #[] PtC.enc 2 (fun x y:PtC A w => cmpF x.1.2 y.1.2) blk 0 xs.toArray.size w:=fun m os dk _ x y => by
   have hfr:∀ {v:Value} {f:List (List Int)},(RS (RS RI)).rd A w [v] f→Rd (RS (RS RI)) (sortWorldK PtC.enc 2 w blk 0 m dk os) [v] f:=fun {v f} h =>
    Rd.of ((RS (RS RI)).rd_frame h (fun b hb hl => sw_block PtC.enc 2 w blk m dk os (fun e => hog b (by rw [e]) hb) hl))
   exact hcmp _ _ _ _ _ _ _ (hfr x.2.2.1) (hfr y.2.2.1) x.2.2.2 y.2.2.2
  have hs:=AnyQ.slices_SortFunc Tryz.sortPt 2 aggPt sizePt PtC.enc (fun _ => rfl) (fun x v hv => by
   simp [PtC.enc] at hv
   rcases hv with rfl|rfl
   ·rfl
   ·exact (RS (RS RI)).rd_one x.2.2.1 _ (by simp)) (fun x y:PtC A w => cmpF x.1.2 y.1.2) swo_cmpF g #[] blk 0 cap xs.toArray w eg hC hH hlt (by rw [hlen];omega)
  rw [hlen] at hs
  refine hs.mono ?_
  rintro e w' ⟨rfl,d',n,os,⟨hp1,_,hp3⟩,hsd,rfl⟩
  have hd:d'.size = zs.length:=by rw [hp1,hlen]
  refine ⟨rfl,d'.toList.map PtC.el,?_,?_,⟨_,sw_row PtC.enc 2 w blk n d' os hrow hd hlt,?_⟩,rfl,rfl,rfl,sw_size PtC.enc 2 w blk n d' os,fun b hb hne => sw_block PtC.enc 2 w blk n d' os (fun e => hne (by rw [e])) hb⟩
  ·rw [e2]
   refine List.Perm.map _ ?_
   rw [← hlen] at hp3
   rw [show d'.extract 0 xs.toArray.size = d' by rw [← hp1];simp,show xs.toArray.extract 0 xs.toArray.size = xs.toArray by simp,List.toList_toArray] at hp3
   exact hp3
  ·rw [List.pairwise_iff_getElem]
   intro i j hi hj hij
   have hi':i < d'.size:=by simpa using hi
   have hj':j < d'.size:=by simpa using hj
   have h1:=hsd i j (Nat.zero_le _) hij (by omega)
   rw [getElem!_pos d' i hi',getElem!_pos d' j hj'] at h1
   have h1:¬ cmpF d'[j].1.2 d'[i].1.2 < 0:=of_decide_eq_false h1
   have h2:=yX.anti d'[j].1.2 d'[i].1.2
   simp only [List.getElem_map,Array.getElem_toList,PtC.el]
   omega
  ·rw [flatK_list PtC.enc 2 (fun _ => rfl) (by decide)]
   exact ptc_to (fun b hb => sw_block PtC.enc 2 w blk n d' os (fun e => hog b (by rw [e]) hb) (hA b hb)) d'.toList
theorem encPt:Enc RPart ePt:=encP encI (encS (encS encI))
theorem a_SortPart (g:Nat) (eg:∀ args w,(callFunc g args).run Tryz.prog w = .ok (.enter g args) w)
  (hcmp:∀ (W:World) (a b:Int) (u v:Value) (f h:List (List Int)),Rd (RS (RS RI)) W [u] f→Rd (RS (RS RI)) W [v] h→qX f ≤ 1000000→qX h ≤ 1000000 →
   Calls Tryz.prog g #[.agg #[.int .i64 a,u],.agg #[.int .i64 b,v]] W fun e w' => e = .returned (.int .i64 (cmpF f h))∧∃ q os',w' = Sort.grow (W.drewN q) os')
  (zs:List (Int × List (List Int))) (hsz:∀ z ∈ zs,qX z.2 ≤ 1000000) (hn:zs.length ≤ 1000000000) :
  AEf Tryz.prog 150 false [] 2 (zs.map ePt) [[.raw (.func (.func g) #[] #[])]] (fun rs oc => rs = []∧∃ zs':List (Int × List (List Int)),oc = some (zs'.map ePt)∧zs'.Perm zs∧zs'.Pairwise (fun a b => cmpF a.2 b.2 ≤ 0)):=by
 refine ⟨enters_of Tryz.func150 rfl rfl,fun A w vs us og cap ds hA hv hu hrow hk hel hog => ?_⟩
 have hv:vs = []:=hv
 subst hv
 obtain ⟨u,us',rfl,hu1,hu2⟩:=hu
 have hu2:us' = []:=hu2
 subst hu2
 have hu1:u = .func (.func g) #[] #[]:=(yM.1 hu1).1
 subst hu1
 rw [List.length_map] at hrow
 obtain ⟨d,hk',hel⟩:=hel
 have hrd:rdL RPart A w ds zs:=enc_rdL_of encPt hel
 have hs:=c_SortPart g eg hcmp hA hog hrow hrd hsz hn
 rw [← List.length_map (f:=ePt)] at hs
 refine Calls.mono hs ?_
 rintro e w' ⟨rfl,zs',hp,hso,⟨ds',hrow',hrd'⟩,hb⟩
 obtain ⟨d',hd'⟩:=enc_rdL encPt hrd'
 have hl:(zs'.map ePt).length = (zs.map ePt).length:=by rw [List.length_map,List.length_map,hp.length_eq]
 refine ⟨.tuple #[],[],some (zs'.map ePt),rfl,⟨rfl,zs',rfl,hp,hso⟩,hb,⟨[],[],[],rfl,List.nodup_nil,by simp,rfl,rfl,rfl⟩,⟨ds',?_,d',by decide,hd'⟩,fun ys e => by cases e;exact hl⟩
 rw [hl]
 exact hrow'
end Go.Proofs.YtedgfkpfhonlpaaGreat
namespace Go.Proofs.YtedgfkpfhonlpaaGreat
open Go.RowKit
theorem c_summed1 (W:World) (a b:Int) (u v:Value) (f h:List (List Int)) (h1:Rd (RS (RS RI)) W [u] f) (h2:Rd (RS (RS RI)) W [v] h) (s1:qX f ≤ 1000000) (s2:qX h ≤ 1000000) :
  Calls Tryz.prog 151 #[.agg #[.int .i64 a,u],.agg #[.int .i64 b,v]] W fun e w' => e = .returned (.int .i64 (cmpF f h))∧∃ q os',w' = Sort.grow (W.drewN q) os':=by
 obtain ⟨o1,c1,rfl,_,_⟩:=h1.val
 obtain ⟨o2,c2,rfl,_,_⟩:=h2.val
 have b1:Below W.heap.size W (W.alloc (.cells #[.int .i64 a,.slice o1 f.length c1] 71)):=(Below.refl _ _).alloc (Nat.le_refl _) _
 have b2:Below W.heap.size W ((W.alloc (.cells #[.int .i64 a,.slice o1 f.length c1] 71)).alloc (.cells #[.int .i64 b,.slice o2 h.length c2] 71)):=b1.alloc (by simp) _
 have hc:=jQ0 _ _ f h _ (h1.below b2 (Nat.le_refl _)) (h2.below b2 (Nat.le_refl _)) (by omega) (by omega)
 have HC:=Lib.hid hc
 clear hc b1 b2 h1 h2
 go_enter Tryz.func151,Tryz.ntmps151
 go_wp2_with (go_at_call 87;refine HC.out.mono ?_;rintro e w' ⟨rfl,rfl⟩)
 go_ret
 exact ⟨rfl,0,_,by rw [Sort.alloc_eq_grow,Sort.alloc_eq_grow,Sort.grow_grow];rfl⟩
theorem e_summed1:∀ args w,(callFunc 151 args).run Tryz.prog w = .ok (.enter 151 args) w:=enters_of Tryz.func151 rfl rfl
theorem a_sortPt (zs:List (Int × List (List Int))) (hsz:∀ z ∈ zs,qX z.2 ≤ 1000000) (hn:zs.length ≤ 1000000000) :
  AEf Tryz.prog 150 false [] 2 (zs.map ePt) [[.raw (.func (.func 151) #[] #[])]] (fun rs oc => rs = []∧∃ zs':List (Int × List (List Int)),oc = some (zs'.map ePt)∧zs'.Perm zs∧zs'.Pairwise (fun a b => cmpF a.2 b.2 ≤ 0)) :=
 a_SortPart 151 e_summed1 c_summed1 zs hsz hn
theorem row_slv {w:World} {v:Value} {k n:Nat} {ds:List Value} {og:Option Nat} (h:Row w v k n ds og):∃ c,v = slv og n c:=by
 obtain ⟨oa,c,ev,k1,k2,k3,k4⟩:=h.value
 refine ⟨c,?_⟩
 cases og with
 | none =>
  have h0:=h.len0
  have hoa:oa = none:=k4
  rw [ev,hoa,h0,k3 hoa];rfl
 | some g => rw [ev,k4];rfl
def CloneQ (A:Nat→Prop) (zs:List (Int × List (List Int))) (w:World):Ending→World→Prop:=fun e w' =>
 ∃ og cap ds,e = .returned (slv og zs.length cap)∧Row w' (slv og zs.length cap) 2 zs.length ds og∧(∀ b,og = some b→w.heap.size ≤ b)∧Below w.heap.size w w'∧rdL RPart A w ds zs
theorem c_ClonePt (v:Value) (zs:List (Int × List (List Int))) (w:World) (A:Nat→Prop) (hA:∀ b,A b→b < w.heap.size) (h:(RS RPart).rd A w [v] zs) (hsz:zs.length ≤ 1000000) :
  Calls Tryz.prog 149 #[v] w (CloneQ A zs w):=by
 obtain ⟨oa,cap,ds,hv,h2,h3,h4,h5,h6⟩:=h
 simp only [List.cons.injEq,and_true] at hv
 subst hv
 unfold maxLen at h3
 have q22:∀ (w:World) (a:Option Addr) (n c n' c':Nat),(binOp .eql 50 (.slice a n c) (.slice none n' c')).run Tryz.prog w = .ok (.bool a.isNone) w:=fun w a n c n' c' => Lib.run_eql_slice_nil w _ _ a n c n' c' tPartI.ht
 cases oa with
 | none =>
  have hc:=h4 rfl
  have hz:zs = []:=List.eq_nil_of_length_eq_zero (by omega)
  subst hz;subst hc
  go_enter Tryz.func149,Tryz.ntmps149
  go_wp2_with fail
  go_ret
  exact ⟨none,0,[],rfl,Row.nil _ 2,fun b hb => (by cases hb),Below.refl _ _,rfl⟩
 | some ad =>
  have hlen:=h5.len
  have hk2:RPart.k = 2:=rfl
  rw [hk2] at hlen
  have hcell:∀ a,(some ad:Option Addr) = some a→∀ j u,ds[j]? = some u→(w.alloc (.cells #[] 71)).cell? (a.add j) = some u:=by
   intro a ha j u hj
   cases ha
   rcases h6 with h6|⟨b,off,e,hb,hc⟩
   ·rw [h6] at hj;simp at hj
   ·cases e
    have:=hc j u hj
    rw [Addr.add_lit]
    rw [World.cell?_alloc_lt _ _ _ (hA b hb)]
    exact this
  have hrow:=Row.lit w #[] 71 2 0 (by decide) (by simp)
  have HR:=Lib.hid hrow
  have HC:=Lib.hid hcell
  have H1:=Lib.hid h5
  clear hrow hcell h5 h6
  go_enter Tryz.func149,Tryz.ntmps149
  go_wp2_with (at_builtin;refine xW (o:=⟨some 7,_,_,_,_,_⟩) ?_)
  refine jA.go ?_
  refine xF rfl _ _ 50 rfl 71 (.agg #[.int .i64 0,.slice none 0 0]) 2 32 tPartI (.slice (some ⟨w.heap.size,0,none⟩) 0 0) 0 [] (some w.heap.size) rfl (by simpa using HR.out) (some ad) zs.length cap ds rfl hlen (fun h => by cases h) HC.out H1.out.one (by omega) (by unfold maxLen;omega) ?_
  intro v' w' og' happ
  rw [Nat.zero_add,List.nil_append] at happ
  have hlow:=happ.low (B:=w.heap.size) (by simp) (fun g hg => by cases hg;exact Nat.le_refl _)
  have hbel:Below w.heap.size w w':=((Below.refl w.heap.size w).alloc (Nat.le_refl _) (.cells #[] 71)).trans hlow.2
  obtain ⟨c',rfl⟩:=row_slv happ.1
  have HH:Hid (Row w' (slv og' zs.length c') 2 zs.length ds og'∧(∀ b,og' = some b→w.heap.size ≤ b)):=Lib.hid ⟨happ.1,hlow.1⟩
  obtain ⟨V,hV⟩:∃ V,V = slv og' zs.length c':=⟨_,rfl⟩
  rw [← hV]
  have HV:=Lib.hid hV
  clear happ hlow hV
  go_wp2_with fail
  go_ret
  exact ⟨og',c',ds,by (rw [HV.out] <;> rfl),HH.out.1,HH.out.2,hbel,H1.out⟩
theorem a_ClonePt (zs:List (Int × List (List Int))) (hsz:zs.length ≤ 1000000):AFn Tryz.prog 149 [[.sl 2 (zs.map ePt)]] (· = [.own 2 (zs.map ePt) false]):=by
 refine ⟨enters_of Tryz.func149 rfl rfl,fun A w vs hA ⟨v1,_,e1,h1,e2⟩ => ?_⟩
 subst e2;subst e1
 have hr:(RS RPart).rd A w [v1] zs:=((encS encPt).rdV (x:=zs) rfl).2 h1
 refine (c_ClonePt v1 zs w A hA hr hsz).mono ?_
 rintro e w' ⟨og,cap,ds,rfl,hrow,hnew,hb,hrd⟩
 have hrd':rdL RPart (fun b => (A b ∨ w.heap.size ≤ b)∧b ∉ og.toList) w' ds zs:=by
  refine (hrd.frame (fun b hb' _ => hb.block b (hA b hb'))).mono (fun b hb' _ => ⟨.inl hb',fun hm => ?_⟩)
  have h1:=hA b hb'
  have h2:=hnew b (by simpa using hm)
  omega
 obtain ⟨d,hd⟩:=enc_rdL encPt hrd'
 refine ⟨_,_,rfl,rfl,hb,[_],og.toList ++ [],og.toList,rfl,by cases og <;> simp,fun b hb' => hnew b (by simpa using hb'),_,[],og.toList ++ [],[],og.toList,[],rfl,by simp,by simp,by cases og <;> rfl,?_,rfl,rfl,rfl⟩
 exact ⟨og,cap,[],ds,by rw [List.length_map] <;> (cases og <;> rfl),by rw [List.length_map];exact hrow,by decide,rfl,rfl,d,by decide,hd⟩
end Go.Proofs.YtedgfkpfhonlpaaGreat
namespace Go.Proofs.YtedgfkpfhonlpaaGreat
open Go.RowKit
def ePtT (z:(Int × List (List Int)) × List Nat):List D:=[.int z.1.1,.tag z.2 (.sl 1 (z.1.2.map eL))]
theorem tag_mkP:∀ (zs:List ((Int × List (List Int)) × List Nat)),TagL ((zs.map (·.1)).map ePt) (zs.map ePtT) ((zs.map (·.2)).flatten)
 | [] => ⟨rfl,rfl⟩
 | z :: zs => ⟨_,_,z.2,_,rfl,rfl,⟨.int z.1.1,[.tag z.2 (.sl 1 (z.1.2.map eL))],[],z.2,rfl,rfl,.inr ⟨rfl,rfl,rfl⟩,⟨_,[],z.2,[],rfl,(List.append_nil _).symm,.inl rfl,rfl,rfl⟩⟩,tag_mkP zs⟩
theorem tag_rowsP:∀ {L:List (Int × List (List Int))} {xs':List (List D)} {F:List Nat},TagL (L.map ePt) xs' F→kI (L.map ePt) xs'→∃ zs:List ((Int × List (List Int)) × List Nat),L = zs.map (·.1)∧xs' = zs.map ePtT∧F = (zs.map (·.2)).flatten
 | [],xs',F,⟨h1,h2⟩,_ => ⟨[],rfl,h1,h2⟩
 | p :: L,xs',F,⟨y,ys,G,H,h1,h2,h3,h4⟩,⟨y',ys',p1,p2,p3⟩ => by
  obtain ⟨e1,e2⟩:y = y'∧ys = ys':=by rw [h1] at p1;simpa using p1
  subst e1;subst e2
  obtain ⟨zs,e1,e2,e3⟩:=tag_rowsP h4 p3
  obtain ⟨y0,ys0,G0,H0,k1,k2,k3,y1,ys1,G1,H1,k4,k5,k6,k7,k8⟩:=h3
  obtain ⟨x0,xs0,p4,p5,_⟩:=p2
  obtain ⟨e4,_⟩:y0 = x0∧ys0 = xs0:=by rw [k1] at p4;simpa using p4
  subst e4
  have hy:=p5 rfl
  subst k7;subst k8
  have hG:G0 = []:=by
   rcases k3 with k3|⟨_,_,k3⟩
   ·rw [k3] at hy;cases hy
   ·exact k3
  subst hG
  subst hy
  rcases k6 with rfl|⟨k6,_⟩
  ·exact ⟨(p,G1) :: zs,by rw [e1];rfl,by rw [h1,k1,k4,e2];rfl,by rw [h2,k2,k5,e3];simp⟩
  ·cases k6
end Go.Proofs.YtedgfkpfhonlpaaGreat
namespace Go.Proofs.YtedgfkpfhonlpaaGreat
open Go.RowKit
def stepM {κ:Type} (c:κ→κ→Int) (out:List (Int × κ)) (a:Int) (x:κ):List (Int × κ):=match out.getLast? with
 | some (b,y) => if c y x = 0 then out.dropLast ++ [(mP (b + a),y)] else out ++ [(mP a,x)]
 | none => [(mP a,x)]
theorem stepM_nil {κ:Type} (c:κ→κ→Int) (a:Int) (x:κ):stepM c [] a x = [(mP a,x)]:=rfl
theorem stepM_eq {κ:Type} (c:κ→κ→Int) (out:List (Int × κ)) (b:Int) (y:κ) (a:Int) (x:κ) (h:c y x = 0):stepM c (out ++ [(b,y)]) a x = out ++ [(mP (b + a),y)]:=by
 unfold stepM;simp [h]
theorem stepM_ne {κ:Type} (c:κ→κ→Int) (out:List (Int × κ)) (b:Int) (y:κ) (a:Int) (x:κ) (h:¬ c y x = 0):stepM c (out ++ [(b,y)]) a x = out ++ [(b,y)] ++ [(mP a,x)]:=by
 unfold stepM;simp [h]
theorem yH0 {κ:Type} (c:κ→κ→Int) (a:Int) (x:κ):∀ (M out:List (Int × κ)),jI c out (M ++ [(a,x)]) = stepM c (jI c out M) a x
 | [],out => rfl
 | (b,y) :: M,out => by
  rw [List.cons_append]
  unfold jI
  exact yH0 c a x M _
theorem mergeTo_len {κ:Type} (c:κ→κ→Int):∀ (M out:List (Int × κ)),(jI c out M).length ≤ out.length + M.length
 | [],out => by simp [jI]
 | (a,x) :: M,out => by
  have:=mergeTo_len c M (stepM c out a x)
  show (jI c (stepM c out a x) M).length ≤ _
  have h2:(stepM c out a x).length ≤ out.length + 1:=by
   unfold stepM
   split
   ·rename_i b y e
    split
    ·have:out ≠ []:=by rintro rfl;simp at e
     have:=List.length_pos_iff.2 this
     simp <;> omega
    ·simp
   ·simp
  simp only [List.length_cons];omega
theorem mergeTo_mem {κ:Type} (c:κ→κ→Int):∀ (M out:List (Int × κ)) (z:Int × κ),z ∈ jI c out M→((0 ≤ z.1∧z.1 < 10007)∧∃ q ∈ out ++ M,q.2 = z.2) ∨ z ∈ out
 | [],out,z,h => .inr (by simpa [jI] using h)
 | (a,x) :: M,out,z,h => by
  have hs:∀ z ∈ stepM c out a x,((0 ≤ z.1∧z.1 < 10007)∧(z.2 = x ∨ ∃ q ∈ out,q.2 = z.2)) ∨ z ∈ out:=by
   intro z hz
   unfold stepM at hz
   split at hz
   ·rename_i b y e
    split at hz
    ·rcases List.mem_append.1 hz with hz|hz
     ·exact .inr ((List.dropLast_sublist out).subset hz)
     ·simp at hz;subst hz
      exact .inl ⟨jR _,.inr ⟨(b,y),List.mem_of_getLast? e,rfl⟩⟩
    ·rcases List.mem_append.1 hz with hz|hz
     ·exact .inr hz
     ·simp at hz;subst hz
      exact .inl ⟨jR _,.inl rfl⟩
   ·simp at hz;subst hz
    exact .inl ⟨jR _,.inl rfl⟩
  rcases mergeTo_mem c M (stepM c out a x) z h with ⟨h1,q,hq,h2⟩|h1
  ·rcases List.mem_append.1 hq with hq|hq
   ·rcases hs q hq with ⟨_,h3|⟨q',h4,h5⟩⟩|h3
    ·exact .inl ⟨h1,(a,x),by simp,by rw [← h2,h3]⟩
    ·exact .inl ⟨h1,q',by simp [h4],by rw [h5,h2]⟩
    ·exact .inl ⟨h1,q,by simp [h3],h2⟩
   ·exact .inl ⟨h1,q,by simp [hq],h2⟩
  ·rcases hs z h1 with ⟨h2,h3|⟨q',h4,h5⟩⟩|h3
   ·exact .inl ⟨h2,(a,x),by simp,by rw [h3]⟩
   ·exact .inl ⟨h2,q',by simp [h4],h5⟩
   ·exact .inr h3
theorem a_cloneRows (f:List (List Int)) (hl:f.length ≤ 1000000) (hs:qX f ≤ 1000000):AFn Tryz.prog 152 [eLL f] (· = [.own 1 (f.map eL) true]) :=
 afn_LLL_oo (enters_of Tryz.func152 rfl rfl) (fun u w h => kZ0 u f w h (by omega) (fun b hb => Nat.le_trans (jL hb) (by omega)))
noncomputable def TSm:Tab Tryz.prog :=
 (Tab.none.add 92 (tab1 codI fun n => some [.val (.int (mP n))]) (jO fun n rs h => by cases h;exact a_num n)).add
  152 (tab1 codLL fun f => if f.length ≤ 1000000∧qX f ≤ 1000000 then some [.own 1 (f.map eL) true] else none) (jO fun f rs h => by split at h;cases h;rename_i hs;exact a_cloneRows f hs.1 hs.2;cases h)
noncomputable def TCf:Tab Tryz.prog :=
 Tab.none.add 87 (tab2 codLL codLL fun f g => if qX f ≤ 1000000∧qX g ≤ 1000000 then some [.val (.int (cmpF f g))] else none) (yK fun f g rs h => by split at h;cases h;rename_i hs;exact yK0 f g (by omega) (by omega);cases h)
theorem a_summed2 (n:Int) (f:List (List Int)):AFn Tryz.prog 154 [[.int n,.sl 1 (f.map eL)]] (· = [.val (.bool (decide (n = 0)))]):=by
 refine AFn.of_runs (qQ 6) Tryz.func154 rfl rfl rfl gz ?_
 have hres:Tryz.f154.results.toList = [.tmp 2]:=rfl
 have hrts:Tryz.f154.resultTypes.toList = [4]:=rfl
 simp only [qV,qT,eL,eI,eLL,eB,Nat.zero_add,Nat.reduceAdd]
 intro M
 refine qJ.of ?_
 by_cases h:n = 0
 ·subst h
  rw [decide_eq_true rfl]
  refine gw170 Y0 ?_
  exact gw2
 ·have hb:(n == 0) = false:=beq_eq_false_iff_ne.2 h
  rw [decide_eq_false h]
  refine gw170 hb ?_
  exact gw2
theorem sub_flat3 {α:Type} {l1 l2:List (List α)} (h:l1.Sublist l2):l1.flatten.Sublist l2.flatten:=by
 induction h with
 | slnil => exact .slnil
 | cons a _ ih => rw [List.flatten_cons];exact ih.trans (List.sublist_append_right _ _)
 | cons_cons a _ ih => rw [List.flatten_cons,List.flatten_cons];exact List.Sublist.append (List.Sublist.refl _) ih
theorem a_summed (L:List (Int × List (List Int))) (hl:L.length ≤ 100000) (hz:∀ z ∈ L,(0 ≤ z.1∧z.1 < 10007)∧z.2.length ≤ 1000000∧qX z.2 ≤ 1000000):AFn Tryz.prog 89 [[.sl 2 (L.map ePt)]] (· = [.own 2 ((sumS cmpF L).map ePt) true]):=by
 have hcl:=a_ClonePt L (by omega)
 have hso:=a_sortPt L (fun z hz' => (hz z hz').2.2) (by omega)
 refine AFn.of_runs (qQ 62) Tryz.func89 rfl rfl rfl gz ?_
 have hres:Tryz.f89.results.toList = [.tmp 2]:=rfl
 have hrts:Tryz.f89.resultTypes.toList = [50]:=rfl
 simp only [qV,qT,eL,eI,eLL,eB,Nat.zero_add,Nat.reduceAdd]
 intro M
 refine qJ.of ?_
 refine gw171 ?_
 refine qJ.regCut (qQ 62) Tab.none 1 (s1:=?_) ?_ ?_
 rotate_left 1
 focus (refine Work.mk ?_;simp only [Zg,Zi,seval,reduceCtorEq,Nat.reduceEqDiff];with_reducible rfl)
 simp only [List.toList_toArray,List.drop_succ_cons,List.drop_zero]
 refine qZ.callEf (qQ 62) rfl rfl (by decide) rfl rfl (x:=.tmp 9) (xpost:=[.func 151]) rfl rfl (post:=[[.raw (.func (.func 151) #[] #[])]]) ?_ ?_ rfl rfl ?_ hso (R:=fun ys => ∃ zs:List (Int × List (List Int)),ys = zs.map ePt∧zs.Perm L∧zs.Pairwise (fun a b => cmpF a.2 b.2 ≤ 0)) ?_ ?_
 ·simp only [Zg,Zi,seval,reduceCtorEq,Nat.reduceEqDiff]
 ·rfl
 ·intro q u hq hu
  rw [look,if_neg (fun e => hq e.symm)] at hu
  cases hu
 ·rintro rs oc ⟨rfl,zs,rfl,h1,h2⟩
  exact ⟨rfl,_,rfl,zs,rfl,h1,h2⟩
 rintro _ ⟨zs,rfl,hperm,hsort⟩
 have hzl:zs.length ≤ 100000:=by rw [hperm.length_eq];exact hl
 have hzz:∀ z ∈ zs,(0 ≤ z.1∧z.1 < 10007)∧z.2.length ≤ 1000000∧qX z.2 ≤ 1000000:=fun z hz' => hz z (hperm.mem_iff.1 hz')
 refine qZ.opsT (qQ 62) (T:=Tab.none) (s':=?_) ?_ ?_
 rotate_left 1
 focus (simp only [Zg,Zi,seval,reduceCtorEq,Nat.reduceEqDiff,List.length_map];with_reducible rfl)
 refine gw172 ?_
 obtain ⟨R,hR⟩:∃ R,R = fun i => jI cmpF [] (zs.take i):=⟨_,rfl⟩
 have hRb:∀ i,i ≤ zs.length→(R i).length ≤ 100000∧∀ z ∈ R i,(0 ≤ z.1∧z.1 < 10007)∧z.2.length ≤ 1000000∧qX z.2 ≤ 1000000:=fun i hi => by
  rw [hR]
  refine ⟨?_,fun z hz' => ?_⟩
  ·have:=mergeTo_len cmpF (zs.take i) []
   simp only [List.length_nil,List.length_take] at this
   show (jI cmpF [] (zs.take i)).length ≤ 100000
   omega
  ·rcases mergeTo_mem cmpF (zs.take i) [] z hz' with ⟨h1,q,hq,h2⟩|h1
   ·have:=hzz q (List.mem_of_mem_take (by simpa using hq))
    rw [← h2]
    exact ⟨h1,this.2⟩
   ·cases h1
 refine qJ.loop (β:=Nat) (γ:=Unit) (fun i => ⟨[(3,.c (.own 3 (R i).length)),(12,.c (.own 0 zs.length)),(13,.c (.val (.int zs.length))),(14,.c (.val (.int i)))],[(0,.row 2 (zs.map ePt) false),(3,.row 2 ((R i).map ePt) true)]⟩) (fun i => i ≤ zs.length) (fun i => zs.length - i)
  (fun _ => ⟨[(3,.c (.own 3 (R zs.length).length))],[(3,.row 2 ((R zs.length).map ePt) true)]⟩) (fun _ => True) 0 (Nat.zero_le _) ?_ ?_ ?_
 ·have e0:R 0 = []:=by rw [hR];rfl
  rw [e0,← hperm.length_eq]
  exact gw173
 ·intro i hi
  have hi:i ≤ zs.length:=hi
  have hw:=qB (n:=i) (by omega)
  obtain ⟨hb1,hb2⟩:=hRb i hi
  by_cases h:i < zs.length
  ·have i1:((i:Int) < (zs.length:Int)) = True:=eq_true (by omega)
   have i2:((0:Int) ≤ (i:Int)) = True:=eq_true (by omega)
   obtain ⟨p,hp⟩:∃ p,p = zs[i]:=⟨_,rfl⟩
   have hg:(zs.map ePt)[i]? = some [.int p.1,.sl 1 (p.2.map eL)]:=by rw [qD h,hp];rfl
   obtain ⟨hp1,hp2,hp3⟩:=hzz zs[i] (List.getElem_mem _)
   rw [← hp] at hp1 hp2 hp3
   have hst:R (i + 1) = stepM cmpF (R i) p.1 p.2:=by
    rw [hR]
    show jI cmpF [] (zs.take (i + 1)) = stepM cmpF (jI cmpF [] (zs.take i)) p.1 p.2
    rw [List.take_succ_eq_append_getElem h,← hp]
    exact yH0 cmpF p.1 p.2 _ _
   have q1:=jJ (n:=(R i).length + 1) (by omega)
   have q2:=qP (n:=(R i).length + 1) (c:=32) (by omega) (by omega)
   have hk1:=eq_true (show p.2.length ≤ 1000000∧qX p.2 ≤ 1000000 from ⟨hp2,hp3⟩)
   have hpm:=mP_small hp1.1 hp1.2
   by_cases h0:R i = []
   ·rw [h0,stepM_nil] at hst
    have j1:(((0:Nat):Int) > 0) = False:=eq_false (by omega)
    rw [h0] at q1 q2 ⊢
    simp only [List.length_nil] at q1 q2
    refine gw174 (Y8 i1 i2 hg hw j1 q1 q2 hk1) ?_
    refine qY.on (i + 1) ⟨h,by omega⟩ ?_
    rw [hst]
    exact gw175
   ·refine qJ.tag' 3 (k:=2) (xs:=(R i).map ePt) rfl ?_
    intro xs' F ht hpl hnd hF
    obtain ⟨qs,e1,e2,e3⟩:=tag_rowsP ht hpl
    have hqn:qs ≠ []:=by rintro rfl;exact h0 (by rw [e1];rfl)
    obtain ⟨qo,q,eq⟩:=(xL qs).resolve_left hqn
    have hlq:(R i).length = qo.length + 1:=by rw [e1,List.length_map,eq];simp
    have hRq:R i = qo.map (·.1) ++ [q.1]:=by rw [e1,eq];simp
    obtain ⟨hz1,hz2,hz3⟩:=hb2 q.1 (by rw [hRq];simp)
    have j1:((((qo.length + 1:Nat)):Int) > 0) = True:=eq_true (by omega)
    have hw1:w64 (((qo.length + 1:Nat):Int) - 1) = ((qo.length:Nat):Int):=by rw [qE (by omega)];omega
    have i3:((0:Int) ≤ ((qo.length:Nat):Int)) = True:=eq_true (by omega)
    have i4:(((qo.length:Nat):Int) < ((qo.length + 1:Nat):Int)) = True:=eq_true (by omega)
    have hgz:xs'[qo.length]? = some [.int q.1.1,.tag q.2 (.sl 1 (q.1.2.map eL))]:=by
     rw [e2,eq,List.map_append,List.getElem?_append_right (by simp)];simp [ePtT]
    have hxl:xs'.length = qo.length + 1:=by rw [e2,eq];simp
    have hgR:((R i).map ePt)[qo.length]? = some [.int q.1.1,.sl 1 (q.1.2.map eL)]:=by
     rw [hRq,List.map_append,List.getElem?_append_right (by simp)];simp [ePt]
    have hlR:((R i).map ePt).length = qo.length + 1:=by rw [List.length_map,hlq]
    have hk2:=eq_true (show qX q.1.2 ≤ 1000000∧qX p.2 ≤ 1000000 from ⟨hz3,hp3⟩)
    rw [hlq] at hb1 q1 q2 ⊢
    refine qJ.fits (s0:=⟨[(3,.c (.own 3 (qo.length + 1))),(12,.c (.own 0 zs.length)),(13,.c (.val (.int zs.length))),(14,.c (.val (.int i)))],[(0,.row 2 (zs.map ePt) false),(3,.row 2 xs' false)]⟩) ?_ ?_
    ·exact gw7 Y0
    by_cases he:cmpF q.1.2 p.2 = 0
    ·have hd:(cmpF q.1.2 p.2 == 0) = true:=beq_iff_eq.2 he
     refine gw176 (Y11 i1 i2 i3 i4 hg hgz hxl hw1 hd j1 hk2) ?_
     refine qJ.untag 3 (xs:=(R i).map ePt) rfl ht hnd hF rfl ?_
     refine qJ.fits (s0:=⟨[(3,.c (.own 3 (qo.length + 1))),(5,.optr 5 0 0),(6,.c (.val (.int ((qo.length + 1:Nat):Int)))),(12,.c (.own 0 zs.length)),(13,.c (.val (.int zs.length))),(14,.c (.val (.int i)))],[(0,.row 2 (zs.map ePt) false),(3,.row 2 ((R i).map ePt) true),(5,.row 2 [[.int p.1,.sl 1 (p.2.map eL)]] false)]⟩) ?_ ?_
     ·exact gw7 Y0
     have hwz:=qE (n:=q.1.1 + p.1) (by omega)
     refine gw177 (Y10 i1 i2 i3 i4 hgR hlR hw hw1 hwz hlq) ?_
     have hse:((R i).map ePt).set qo.length [.int (mP (q.1.1 + p.1)),.sl 1 (q.1.2.map eL)] = (R (i + 1)).map ePt:=by
      rw [hst,hRq,stepM_eq cmpF (qo.map (·.1)) q.1.1 q.1.2 p.1 p.2 he,List.map_append,List.set_append_right _ _ (by simp)];simp [ePt]
     refine qY.on (i + 1) ⟨h,by omega⟩ ?_
     have hl2:(R (i + 1)).length = qo.length + 1:=by rw [hst,hRq,stepM_eq cmpF (qo.map (·.1)) q.1.1 q.1.2 p.1 p.2 he];simp
     rw [hl2,← hse]
     exact gw77 Y0
    ·have hd:(cmpF q.1.2 p.2 == 0) = false:=beq_eq_false_iff_ne.2 he
     refine gw176 (Y11 i1 i2 i3 i4 hg hgz hxl hw1 hd j1 hk2) ?_
     refine qJ.untag 3 (xs:=(R i).map ePt) rfl ht hnd hF rfl ?_
     refine qJ.fits (s0:=⟨[(3,.c (.own 3 (qo.length + 1))),(5,.optr 5 0 0),(6,.c (.val (.int ((qo.length + 1:Nat):Int)))),(12,.c (.own 0 zs.length)),(13,.c (.val (.int zs.length))),(14,.c (.val (.int i)))],[(0,.row 2 (zs.map ePt) false),(3,.row 2 ((R i).map ePt) true),(5,.row 2 [[.int p.1,.sl 1 (p.2.map eL)]] false)]⟩) ?_ ?_
     ·exact gw7 Y0
     refine gw177 (Y12 i1 i2 i3 i4 hgR hlR hw hw1 hk1 hlq q1 q2) ?_
     have hR2:R (i + 1) = R i ++ [(mP p.1,p.2)]:=by
      rw [hst,hRq];exact stepM_ne cmpF (qo.map (·.1)) q.1.1 q.1.2 p.1 p.2 he
     refine qY.on (i + 1) ⟨h,by omega⟩ ?_
     rw [hR2,List.length_append,hlq]
     exact gw77 Y0
  ·have i1:((i:Int) < (zs.length:Int)) = False:=eq_false (by omega)
   obtain rfl:i = zs.length:=by omega
   refine gw178 i1 ?_
   refine qY.out () trivial ?_
   exact gw7 Y0
 ·rintro _ _
  refine gw178 Y0 ?_
  refine qJ.tag' 3 (k:=2) (xs:=(R zs.length).map ePt) rfl ?_
  intro xs' F ht hpl hnd hF
  obtain ⟨qs,e1,e2,e3⟩:=tag_rowsP ht hpl
  subst e2
  have hql:(R zs.length).length = qs.length:=by rw [e1,List.length_map]
  have hqb:qs.length ≤ 1000000000:=by rw [← hql];have:=(hRb zs.length (Nat.le_refl _)).1;omega
  have hdel:=a_DeleteFuncPt ePtT (fun z => .tag z.2 (.sl 1 (z.1.2.map eL))) (·.1.1) (·.1.2) (fun z => decide (z.1.1 = 0)) 154 (fun _ => rfl) (fun _ => rfl) (fun z => a_summed2 z.1.1 z.1.2) qs hqb
  rw [hql]
  refine qJ.fits (s0:=⟨[(3,.c (.own 3 qs.length))],[(3,.row 2 (qs.map ePtT) false)]⟩) ?_ ?_
  ·exact gw7 Y0
  refine gw179 ?_
  refine Ends.un (by simp) hres hrts (r:=?_) (r':=.own 2 ((sumS cmpF L).map ePt) true) (l:=[]) (ks:=?_) ?_ ?_ (by simp) ?_ rfl
  rotate_left 2
  focus (simp only [jG,ares,Zg,Zi,seval,reduceCtorEq,Nat.reduceEqDiff];with_reducible rfl)
  focus simp
  have hx:(sumS cmpF L).map ePt = ((keepF (fun z:(Int × List (List Int)) × List Nat => decide (z.1.1 = 0)) qs).map (·.1)).map ePt:=by
   rw [← merge_sum yX hperm hsort (fun q hq => (hz q hq).1)]
   have h1:jI cmpF [] zs = qs.map (·.1):=by rw [← e1,hR];show _ = jI cmpF [] (zs.take zs.length);rw [List.take_length]
   rw [h1,List.filter_map]
   rfl
  rw [hx]
  have hsub:(keepF (fun z:(Int × List (List Int)) × List Nat => decide (z.1.1 = 0)) qs).Sublist qs:=List.filter_sublist
  refine ⟨((keepF (fun z:(Int × List (List Int)) × List Nat => decide (z.1.1 = 0)) qs).map (·.2)).flatten,?_,fun b hb => hF b ?_,.inl ⟨2,_,_,rfl,rfl,tag_mkP _⟩⟩
  ·rw [e3] at hnd
   exact hnd.sublist (sub_flat3 (hsub.map _))
  ·rw [e3]
   exact (sub_flat3 (hsub.map _)).subset hb
end Go.Proofs.YtedgfkpfhonlpaaGreat
namespace Go.Proofs.YtedgfkpfhonlpaaGreat
open Go.RowKit
theorem a_splitForest (f:List (List Int)) (hlev:∀ b ∈ f,qU b) (h8:qX f ≤ 8):AFn Tryz.prog 61 [eLL f] (· = [.own 3 ((prodS (f.map split)).map eS0) false]):=by
 have hbl:=wW hlev
 have hlen8:∀ b ∈ f,b.length ≤ 8:=fun b hb => by have:=jL hb;omega
 have hAg:∀ k,(∀ s ∈ prodS ((f.take k).map split),xY (qX (f.take k)) s)∧(prodS ((f.take k).map split)).length ≤ 256∧qX (f.take k) ≤ 8:=fun k => by
  have h1:=yP0 f k
  exact ⟨kJ (vL hlev),vE (vL hlev) (by omega),by omega⟩
 refine AFn.of_runs (qQ 54) Tryz.func61 rfl rfl rfl gz ?_
 have hres:Tryz.f61.results.toList = [.tmp 2]:=rfl
 have hrts:Tryz.f61.resultTypes.toList = [33]:=rfl
 simp only [qV,qT,eL,eI,eLL,eB,Nat.zero_add,Nat.reduceAdd]
 intro M
 refine qJ.of ?_
 refine gw180 ?_
 refine qJ.loop (β:=Nat) (γ:=Unit) (fun k => ⟨[(3,.c (.own 3 (prodS ((f.take k).map split)).length)),(13,.c (.val (.sl 1 (f.map eL)))),(14,.c (.val (.int f.length))),(15,.c (.val (.int k)))],[(3,.row 3 ((prodS ((f.take k).map split)).map eS0) false)]⟩) (fun k => k ≤ f.length) (fun k => f.length - k)
  (fun _ => ⟨[(3,.c (.own 3 (prodS (f.map split)).length))],[(3,.row 3 ((prodS (f.map split)).map eS0) false)]⟩) (fun _ => True) 0 (Nat.zero_le _) ?_ ?_ ?_
 ·exact gw106 (show prodS [] = [([],[])] from rfl)
 ·intro k hk
  have hk:k ≤ f.length:=hk
  have hwk:=qB (n:=k) (by omega)
  obtain ⟨g1,g2,g3⟩:=hAg k
  by_cases hkb:k < f.length
  ·have i1:((k:Int) < (f.length:Int)) = True:=eq_true (by omega)
   have i2:((0:Int) ≤ (k:Int)) = True:=eq_true (by omega)
   obtain ⟨b,hb⟩:∃ b,b = f[k]:=⟨_,rfl⟩
   have hbm:b ∈ f:=by rw [hb];exact List.getElem_mem _
   have hg:(f.map eL)[k]? = some [.sl 1 (b.map eI)]:=by rw [qD hkb,hb];rfl
   have hle:(f.map eL).length = f.length:=List.length_map _
   have hblen:=hlen8 b hbm
   have hih:=AFn.val1 (yF0 8 (by omega) b (hlev b hbm) (by omega))
   have hgB:=vP _ (Nat.le_refl _) (hlev b hbm)
   have hlB:(split b).length ≤ 256:=by
    have h1:=wP _ (Nat.le_refl _) (hlev b hbm)
    have h2:2 ^ b.length ≤ 2 ^ 8:=Nat.pow_le_pow_right (by decide) (by omega)
    omega
   have htk:prodS ((f.take (k + 1)).map split) = (prodS ((f.take k).map split)).flatMap fun s => (split b).map (catS s):=by
    rw [hb,List.take_succ_eq_append_getElem hkb,List.map_append];exact foldS_snoc _ _ _
   have hn2:(prodS ((f.take (k + 1)).map split)).length ≤ 256:=(hAg (k + 1)).2.1
   obtain ⟨A,hA⟩:∃ A,A = prodS ((f.take k).map split):=⟨_,rfl⟩
   obtain ⟨B,hB⟩:∃ B,B = split b:=⟨_,rfl⟩
   rw [← hA] at g1 g2 htk ⊢
   rw [← hB] at hih hgB hlB htk
   rw [htk] at hn2
   simp only [eL] at hih
   have hsA:∀ s ∈ A,SmS s:=fun s hs => ((g1 s hs).ha (by omega)).sm
   have hsB:∀ s ∈ B,SmS s:=fun s hs => ((hgB s hs).ha (by omega)).sm
   have hAl:(A.map eS0).length = A.length:=List.length_map _
   refine gw181 (Y4 i1 i2 hg hle) ?_
   refine qJ.loop (β:=Nat) (γ:=Unit) (fun i => ⟨[(3,.c (.own 3 A.length)),(5,.c (.val (.sl 1 (b.map eI)))),(6,.c (.own 6 ((A.take i).flatMap fun s => B.map (catS s)).length)),(13,.c (.val (.sl 1 (f.map eL)))),(14,.c (.val (.int f.length))),(15,.c (.val (.int k))),(20,.c (.own 3 A.length)),(21,.c (.val (.int A.length))),(22,.c (.val (.int i)))],
     [(3,.row 3 (A.map eS0) false),(6,.row 3 (((A.take i).flatMap fun s => B.map (catS s)).map eS0) false)]⟩) (fun i => i ≤ A.length) (fun i => A.length - i)
    (fun _ => ⟨[(6,.c (.own 6 (A.flatMap fun s => B.map (catS s)).length)),(13,.c (.val (.sl 1 (f.map eL)))),(14,.c (.val (.int f.length))),(15,.c (.val (.int k)))],[(6,.row 3 ((A.flatMap fun s => B.map (catS s)).map eS0) false)]⟩) (fun _ => True) 0 (Nat.zero_le _) ?_ ?_ ?_
   ·exact gw108
   ·intro i hi
    have hi:i ≤ A.length:=hi
    have hwi:=qB (n:=i) (by omega)
    by_cases hiA:i < A.length
    ·have j1:((i:Int) < (A.length:Int)) = True:=eq_true (by omega)
     have j2:((0:Int) ≤ (i:Int)) = True:=eq_true (by omega)
     obtain ⟨s,hs⟩:∃ s,s = A[i]:=⟨_,rfl⟩
     have hsm:=hsA A[i] (List.getElem_mem _)
     have hgs:(A.map eS0)[i]? = some [.sl 1 (s.1.map eL),.sl 1 (s.2.map eL),.int 0]:=by rw [qD hiA,hs];rfl
     have htkA:(A.take (i + 1)).flatMap (fun s => B.map (catS s)) = ((A.take i).flatMap fun s => B.map (catS s)) ++ B.map (catS s):=by
      rw [hs,List.take_succ_eq_append_getElem hiA,List.flatMap_append];simp
     have hXl:((A.take i).flatMap fun s => B.map (catS s)).length + B.length ≤ 256:=by
      rw [flatS_len] at hn2 ⊢
      rw [List.length_take,Nat.min_eq_left hi]
      have:(i + 1) * B.length ≤ A.length * B.length:=Nat.mul_le_mul_right _ hiA
      rw [Nat.succ_mul] at this;omega
     rw [← hs] at hsm
     obtain ⟨X,hX⟩:∃ X,X = (A.take i).flatMap fun s => B.map (catS s):=⟨_,rfl⟩
     rw [← hX] at htkA hXl ⊢
     have hBl:(B.map eS0).length = B.length:=List.length_map _
     refine gw182 (Y5 j1 j2 hgs hAl hBl) ?_
     refine qJ.loop (β:=Nat) (γ:=Unit) (fun j => ⟨[(3,.c (.own 3 A.length)),(5,.c (.val (.sl 1 (b.map eI)))),(6,.c (.own 6 (X ++ (B.take j).map (catS s)).length)),(8,.optr 8 0 0),(13,.c (.val (.sl 1 (f.map eL)))),(14,.c (.val (.int f.length))),(15,.c (.val (.int k))),(20,.c (.own 3 A.length)),(21,.c (.val (.int A.length))),(22,.c (.val (.int i))),(27,.c (.val (.sl 3 (B.map eS0)))),(28,.c (.val (.int B.length))),(29,.c (.val (.int j)))],
       [(3,.row 3 (A.map eS0) false),(6,.row 3 ((X ++ (B.take j).map (catS s)).map eS0) false),(8,.row 3 [[.sl 1 (s.1.map eL),.sl 1 (s.2.map eL),.int 0]] false)]⟩) (fun j => j ≤ B.length) (fun j => B.length - j)
      (fun _ => ⟨[(3,.c (.own 3 A.length)),(5,.c (.val (.sl 1 (b.map eI)))),(6,.c (.own 6 (X ++ B.map (catS s)).length)),(13,.c (.val (.sl 1 (f.map eL)))),(14,.c (.val (.int f.length))),(15,.c (.val (.int k))),(20,.c (.own 3 A.length)),(21,.c (.val (.int A.length))),(22,.c (.val (.int i)))],
       [(3,.row 3 (A.map eS0) false),(6,.row 3 ((X ++ B.map (catS s)).map eS0) false)]⟩) (fun _ => True) 0 (Nat.zero_le _) ?_ ?_ ?_
     ·exact gw58
     ·intro j hj
      have hj:j ≤ B.length:=hj
      have hwj:=qB (n:=j) (by omega)
      by_cases hjB:j < B.length
      ·have l1:((j:Int) < (B.length:Int)) = True:=eq_true (by omega)
       have l2:((0:Int) ≤ (j:Int)) = True:=eq_true (by omega)
       obtain ⟨c,hc⟩:∃ c,c = B[j]:=⟨_,rfl⟩
       have hcm:=hsB B[j] (List.getElem_mem _)
       have hgc:(B.map eS0)[j]? = some [.sl 1 (c.1.map eL),.sl 1 (c.2.map eL),.int 0]:=by rw [qD hjB,hc];rfl
       have htkB:X ++ (B.take (j + 1)).map (catS s) = (X ++ (B.take j).map (catS s)) ++ [catS s c]:=by
        rw [hc,List.take_succ_eq_append_getElem hjB,List.map_append,List.append_assoc];rfl
       rw [← hc] at hcm
       have hYl:(X ++ (B.take j).map (catS s)).length ≤ 256:=by rw [List.length_append,List.length_map,List.length_take];omega
       obtain ⟨Y,hY⟩:∃ Y,Y = X ++ (B.take j).map (catS s):=⟨_,rfl⟩
       rw [← hY] at htkB hYl ⊢
       have q1:=jJ (n:=Y.length + 1) (by omega)
       have q2:=qP (n:=Y.length + 1) (c:=56) (by omega) (by omega)
       have hYm:(Y.map eS0).length = Y.length:=List.length_map _
       have e1:=eq_true (And.intro hsm.1 hcm.1)
       have e2:=eq_true (And.intro hsm.2 hcm.2)
       refine gw183 (Y4 l1 l2 hgc hBl) ?_
       (((with_reducible refine qJ.wFz (qQ 54) TCat qK [38,44] (tr:=?_) (s1:=?_) (rest:=?_) ?_ ?_ ?_);rotate_left 3;(focus ((with_reducible refine QW ?_);simp only [Zg,Zd,Zi,seval,reduceCtorEq,Nat.reduceEqDiff,drunF,kT,devalB,valD,wU,List.contains_cons,List.contains_nil,TCat,TCat,codLLL_d,cat2_eq,e1,e2,q1,q2,hYm];with_reducible rfl));focus ((with_reducible refine QK ?_);simp only [Zk];kernel_rfl));(refine qZ.opsT (qQ 54) (T:=TCat) (s':=?_) ?_ ?_;rotate_left 1;focus (simp only [Zg,Zi,seval,reduceCtorEq,Nat.reduceEqDiff,TCat,TCat,codLLL_d,cat2_eq,e1,e2,q1,q2,hYm];with_reducible rfl)))
       refine gw184 hwj ?_
       refine qY.on (j + 1) ⟨hjB,by omega⟩ ?_
       rw [htkB]
       exact gw112
      ·have l1:((j:Int) < (B.length:Int)) = False:=eq_false (by omega)
       obtain rfl:j = B.length:=by omega
       rw [List.take_length]
       refine gw184 l1 ?_
       refine qY.out () trivial ?_
       exact gw7 Y0
     ·rintro _ _
      refine gw184 hwi ?_
      refine qY.on (i + 1) ⟨hiA,by omega⟩ ?_
      rw [htkA]
      exact gw7 Y0
    ·have j1:((i:Int) < (A.length:Int)) = False:=eq_false (by omega)
     obtain rfl:i = A.length:=by omega
     rw [List.take_length]
     refine gw184 j1 ?_
     refine qY.out () trivial ?_
     exact gw7 Y0
   ·rintro _ _
    refine gw184 hwk ?_
    refine qY.on (k + 1) ⟨hkb,by omega⟩ ?_
    rw [htk]
    exact gw7 Y0
  ·have i1:((k:Int) < (f.length:Int)) = False:=eq_false (by omega)
   obtain rfl:k = f.length:=by omega
   rw [List.take_length]
   refine gw184 i1 ?_
   refine qY.out () trivial ?_
   exact gw7 Y0
 ·rintro _ _
  refine gw184 Y0 ?_
  exact gw2
end Go.Proofs.YtedgfkpfhonlpaaGreat
namespace Go.Proofs.YtedgfkpfhonlpaaGreat
open Go.RowKit
theorem a_IndexFuncTe {α:Type} (e:α→List D) (d d2:α→D) (c0:α→Int) (f f2:α→List (List Int)) (p:α→Bool) (g:FuncId) (he:∀ x,e x = [.int (c0 x),d x,d2 x]) (hun:∀ x,(d x).un = .sl 1 ((f x).map eL)) (hun2:∀ x,(d2 x).un = .sl 1 ((f2 x).map eL)) (hp:∀ x,AFn Tryz.prog g [[.int (c0 x),.sl 1 ((f x).map eL),.sl 1 ((f2 x).map eL)]] (· = [.val (.bool (p x))])) (xs:List α) (hl:xs.length ≤ 1000000000) :
  AFn Tryz.prog 161 [[.sl 3 (xs.map e)],[.raw (.func (.func g) #[] #[])]] (· = [.val (.int (idxI (fIdx p xs)))]):=by
 refine AFn.of_runs (qQ 19) Tryz.func161 rfl rfl rfl gz ?_
 have hres:Tryz.f161.results.toList = [.tmp 4]:=rfl
 have hrts:Tryz.f161.resultTypes.toList = [3]:=rfl
 simp only [qV,qT,eL,eI,eLL,eB,Nat.zero_add,Nat.reduceAdd]
 intro M
 refine qJ.of ?_
 have hle:(xs.map e).length = xs.length:=by simp
 refine gw152 hle ?_
 refine qJ.loop (β:=Nat) (γ:=Unit) (fun i => ⟨[(0,.c (.val (.sl 3 (xs.map e)))),(1,.c (.val (.raw (.func (.func g) #[] #[])))),(7,.c (.val (.int xs.length))),(8,.c (.val (.int i)))],[]⟩) (fun i => i ≤ xs.length∧∀ x ∈ xs.take i,p x = false) (fun i => xs.length - i)
  (fun _ => ⟨[],[]⟩) (fun _ => ∀ x ∈ xs,p x = false) 0 ⟨Nat.zero_le _,by simp⟩ ?_ ?_ ?_
 ·exact gw7 Y0
 ·rintro i ⟨hi,hlow⟩
  have hw:=qB (n:=i) (by omega)
  by_cases h:i < xs.length
  ·have hx:=hp xs[i]
   have hj:(xs.map e)[i]? = some [.int (c0 xs[i]),d xs[i],d2 xs[i]]:=by rw [qD h,he]
   have i1:((i:Int) < (xs.length:Int)) = True:=eq_true (by omega)
   have i2:((0:Int) ≤ (i:Int)) = True:=eq_true (by omega)
   by_cases hpx:p xs[i] = true
   ·repeat' (first|with_reducible (first|refine Q1 ?_|refine Q2 ?_|refine Q3 ?_|refine Q4 ?_|refine Q5 ?_|refine Q6 ?_|refine Q7 ?_|refine Q8 ?_|refine Q9 ?_|refine Qa ?_|refine Qb ?_|refine Qc ?_|refine Qd ?_|refine Qe ?_|refine Qf ?_|refine QO ?_|refine QV 9 ?_|refine QY 9 ?_)|with_reducible ((first|apply QS (qQ 19) (Tab.none.at' g hx)|apply QC);refine QW ?_;simp only [Zg,Zi,seval,reduceCtorEq,Nat.reduceEqDiff,hle,i1,i2,hj,hun,hun2,xG (hun _),xR (hun _),xG (hun2 _),xR (hun2 _),hpx,hw,eL,Int.toNat_natCast];rfl))
    refine qY.ret ?_
    refine gw152 Y0 ?_
    rw [fIdx_at h hpx hlow]
    exact gw153
   ·have hpx':p xs[i] = false:=by simpa using hpx
    repeat' (first|with_reducible (first|refine Q1 ?_|refine Q2 ?_|refine Q3 ?_|refine Q4 ?_|refine Q5 ?_|refine Q6 ?_|refine Q7 ?_|refine Q8 ?_|refine Q9 ?_|refine Qa ?_|refine Qb ?_|refine Qc ?_|refine Qd ?_|refine Qe ?_|refine Qf ?_|refine QO ?_|refine QV 9 ?_|refine QY 9 ?_)|with_reducible ((first|apply QS (qQ 19) (Tab.none.at' g hx)|apply QC);refine QW ?_;simp only [Zg,Zi,seval,reduceCtorEq,Nat.reduceEqDiff,hle,i1,i2,hj,hun,hun2,xG (hun _),xR (hun _),xG (hun2 _),xR (hun2 _),hpx',hw,eL,Int.toNat_natCast];rfl))
    refine qY.on (i + 1) ⟨⟨h,fun x hx => ?_⟩,by omega⟩ ?_
    ·rw [List.take_succ_eq_append_getElem h,List.mem_append,List.mem_singleton] at hx
     rcases hx with hx|rfl
     ·exact hlow x hx
     ·exact hpx'
    ·exact gw7 Y0
  ·have i1:((i:Int) < (xs.length:Int)) = False:=eq_false (by omega)
   refine gw152 (Yp hle i1) ?_
   refine qY.out () (fun x hx => hlow x (by rw [List.take_of_length_le (by omega)];exact hx)) ?_
   exact gw7 Y0
 ·rintro _ hno
  refine gw152 Y0 ?_
  rw [vD.2 hno]
  exact gw153
theorem a_DeleteFuncTe {α:Type} (e:α→List D) (d d2:α→D) (c0:α→Int) (f f2:α→List (List Int)) (p:α→Bool) (g:FuncId) (he:∀ x,e x = [.int (c0 x),d x,d2 x]) (hun:∀ x,(d x).un = .sl 1 ((f x).map eL)) (hun2:∀ x,(d2 x).un = .sl 1 ((f2 x).map eL)) (hp:∀ x,AFn Tryz.prog g [[.int (c0 x),.sl 1 ((f x).map eL),.sl 1 ((f2 x).map eL)]] (· = [.val (.bool (p x))])) (xs:List α) (hl:xs.length ≤ 1000000000) :
  AOw Tryz.prog 95 [] 3 (xs.map e) [[.raw (.func (.func g) #[] #[])]] (· = [.own 3 ((keepF p xs).map e) false]):=by
 have hidx:=a_IndexFuncTe e d d2 c0 f f2 p g he hun hun2 hp xs hl
 rcases hfi:fIdx p xs with _|i0
 ·rw [hfi] at hidx
  have hk:keepF p xs = xs:=List.filter_eq_self.2 (fun x hx => by rw [vD.1 hfi x hx];rfl)
  rw [hk]
  refine AOw.of_runs (qQ 42) Tryz.func95 rfl rfl rfl gz ?_
  have hres:Tryz.f95.results.toList = [.tmp 4]:=rfl
  have hrts:Tryz.f95.resultTypes.toList = [65]:=rfl
  simp only [List.length_cons,List.length_nil,List.nil_append,List.cons_append,qV,qT,eL,eI,eLL,eB,Nat.zero_add,Nat.reduceAdd]
  intro M
  refine qJ.of ?_
  refine gw185 Y0 ?_
  exact gw2
 ·rw [hfi] at hidx
  obtain ⟨hi0,hpi,hlow⟩:=jT0 hfi
  refine AOw.of_runs (qQ 42) Tryz.func95 rfl rfl rfl gz ?_
  have hres:Tryz.f95.results.toList = [.tmp 4]:=rfl
  have hrts:Tryz.f95.resultTypes.toList = [65]:=rfl
  simp only [List.length_cons,List.length_nil,List.nil_append,List.cons_append,qV,qT,eL,eI,eLL,eB,Nat.zero_add,Nat.reduceAdd]
  intro M
  refine qJ.of ?_
  have hne:((i0:Int) == -1) = false:=beq_eq_false_iff_ne.2 (by omega)
  have hw0:=qB (n:=i0) (by omega)
  refine gw185 (Yp hne hw0) ?_
  refine qJ.loop (β:=Nat × List (List D)) (γ:=List (List D)) (fun x => ⟨[(0,.c (.own 0 xs.length)),(1,.c (.val (.raw (.func (.func g) #[] #[])))),(5,.c (.val (.int (keepF p (xs.take x.1)).length))),(6,.c (.val (.int x.1)))],[(0,.row 3 x.2 false)]⟩)
   (fun x => x.1 ≤ xs.length∧x.2.length = xs.length∧(∀ r ∈ x.2,r.length = 3)∧x.2.take (keepF p (xs.take x.1)).length = (keepF p (xs.take x.1)).map e∧x.2.drop x.1 = (xs.drop x.1).map e) (fun x => xs.length - x.1)
   (fun L => ⟨[(0,.c (.own 0 xs.length)),(5,.c (.val (.int (keepF p xs).length)))],[(0,.row 3 L false)]⟩) (fun L => L.length = xs.length∧L.take (keepF p xs).length = (keepF p xs).map e) (i0 + 1,xs.map e) ⟨by omega,by simp,?_,?_,by rw [List.map_drop]⟩ ?_ ?_ ?_
  ·intro r hr
   obtain ⟨x,_,rfl⟩:=List.mem_map.1 hr
   rw [he];rfl
  ·have h1:keepF p (xs.take (i0 + 1)) = xs.take i0:=by
    rw [List.take_succ_eq_append_getElem hi0]
    unfold keepF
    rw [List.filter_append,List.filter_eq_self.2 (fun x hx => by rw [hlow x hx];rfl)]
    simp [hpi]
   show (xs.map e).take (keepF p (xs.take (i0 + 1))).length = (keepF p (xs.take (i0 + 1))).map e
   rw [h1,← List.map_take,List.length_take,Nat.min_eq_left (Nat.le_of_lt hi0)]
  ·have h1:(keepF p (xs.take (i0 + 1))).length = i0:=by
    rw [List.take_succ_eq_append_getElem hi0]
    unfold keepF
    rw [List.filter_append,List.filter_eq_self.2 (fun x hx => by rw [hlow x hx];rfl)]
    simp [hpi];omega
   exact gw7 h1
  ·rintro ⟨j,L⟩ ⟨hj,hL,hone,htk,hdr⟩
   have hj:j ≤ xs.length:=hj
   have hL:L.length = xs.length:=hL
   have htk:L.take (keepF p (xs.take j)).length = (keepF p (xs.take j)).map e:=htk
   have hdr:L.drop j = (xs.drop j).map e:=hdr
   have hw:=qB (n:=j) (by omega)
   have hcl:(keepF p (xs.take j)).length ≤ j:=by
    have:=List.length_filter_le (fun x => !p x) (xs.take j)
    unfold keepF
    rw [List.length_take] at this
    omega
   have hwc:=qB (n:=(keepF p (xs.take j)).length) (by omega)
   by_cases h:j < xs.length
   ·have hx:=hp xs[j]
    have hLj:L[j]? = some [.int (c0 xs[j]),d xs[j],d2 xs[j]]:=by
     have:(L.drop j)[0]? = ((xs.drop j).map e)[0]?:=by rw [hdr]
     rw [List.getElem?_drop,List.getElem?_map,List.getElem?_drop] at this
     simpa [h,he] using this
    have i1:((j:Int) < (xs.length:Int)) = True:=eq_true (by omega)
    have i2:((0:Int) ≤ (j:Int)) = True:=eq_true (by omega)
    have hsucc:keepF p (xs.take (j + 1)) = if p xs[j] = true then keepF p (xs.take j) else keepF p (xs.take j) ++ [xs[j]]:=by
     rw [List.take_succ_eq_append_getElem h]
     unfold keepF
     rw [List.filter_append]
     by_cases hpx:p xs[j] = true <;> simp [hpx]
    by_cases hpx:p xs[j] = true
    ·rw [if_pos hpx] at hsucc
     repeat' (first|with_reducible (first|refine Q1 ?_|refine Q2 ?_|refine Q3 ?_|refine Q4 ?_|refine Q5 ?_|refine Q6 ?_|refine Q7 ?_|refine Q8 ?_|refine Q9 ?_|refine Qa ?_|refine Qb ?_|refine Qc ?_|refine Qd ?_|refine Qe ?_|refine Qf ?_|refine QO ?_|refine QV 8 ?_|refine QY 8 ?_)|with_reducible ((first|apply QS (qQ 42) (Tab.none.at' g hx)|apply QC);refine QW ?_;simp only [Zg,Zi,seval,reduceCtorEq,Nat.reduceEqDiff,hL,i1,i2,hLj,hun,hun2,xG (hun _),xR (hun _),xG (hun2 _),xR (hun2 _),hpx,hw,eL,Int.toNat_natCast];rfl))
     refine qY.on (j + 1,L) ⟨⟨h,hL,hone,?_,?_⟩,by show xs.length - (j + 1) < xs.length - j;omega⟩ ?_
     ·rw [hsucc];exact htk
     ·show L.drop (j + 1) = (xs.drop (j + 1)).map e
      rw [← List.drop_drop,hdr,← List.map_drop,List.drop_drop]
     ·exact gw7 hsucc
    ·have hpx':p xs[j] = false:=by simpa using hpx
     rw [if_neg hpx] at hsucc
     obtain ⟨c,hc⟩:∃ c,c = (keepF p (xs.take j)).length:=⟨_,rfl⟩
     have hcs:(keepF p (xs.take (j + 1))).length = c + 1:=by rw [hsucc,hc];simp
     rw [← hc] at hwc hcl htk
     have hcL:c < L.length:=by omega
     obtain ⟨y,y2,y3,hy⟩:∃ y y2 y3,L[c] = [y,y2,y3]:=by
      have:=hone L[c] (List.getElem_mem _)
      match L[c],this with
      | [y,y2,y3],_ => exact ⟨y,y2,y3,rfl⟩
     have hLc:L[c]? = some [y,y2,y3]:=by rw [List.getElem?_eq_getElem hcL,hy]
     have i3:((c:Int) < (xs.length:Int)) = True:=eq_true (by omega)
     have i4:((0:Int) ≤ (c:Int)) = True:=eq_true (by omega)
     rw [← hc]
     repeat' (first|with_reducible (first|refine Q1 ?_|refine Q2 ?_|refine Q3 ?_|refine Q4 ?_|refine Q5 ?_|refine Q6 ?_|refine Q7 ?_|refine Q8 ?_|refine Q9 ?_|refine Qa ?_|refine Qb ?_|refine Qc ?_|refine Qd ?_|refine Qe ?_|refine Qf ?_|refine QO ?_|refine QV 8 ?_|refine QY 8 ?_)|with_reducible ((first|apply QS (qQ 42) (Tab.none.at' g hx)|apply QC);refine QW ?_;simp only [Zg,Zi,seval,reduceCtorEq,Nat.reduceEqDiff,hL,i1,i2,i3,i4,hLj,hLc,hun,hun2,xG (hun _),xR (hun _),xG (hun2 _),xR (hun2 _),hpx',hw,hwc,eL,Int.toNat_natCast];rfl))
     refine qY.on (j + 1,L.set c [.int (c0 xs[j]),d xs[j],d2 xs[j]]) ⟨⟨h,by simpa using hL,?_,?_,?_⟩,by show xs.length - (j + 1) < xs.length - j;omega⟩ ?_
     ·intro r hr
      rcases List.mem_or_eq_of_mem_set hr with hr|rfl
      ·exact hone r hr
      ·rfl
     ·show (L.set c [.int (c0 xs[j]),d xs[j],d2 xs[j]]).take (keepF p (xs.take (j + 1))).length = (keepF p (xs.take (j + 1))).map e
      rw [hcs,hsucc,List.map_append,List.take_succ_eq_append_getElem (by simpa using hcL),List.take_set_of_le (Nat.le_refl _),htk]
      simp [he]
     ·show (L.set c [.int (c0 xs[j]),d xs[j],d2 xs[j]]).drop (j + 1) = (xs.drop (j + 1)).map e
      rw [List.drop_set_of_lt (by omega),← List.drop_drop,hdr,← List.map_drop,List.drop_drop]
     ·exact gw7 hcs
   ·have i1:((j:Int) < (xs.length:Int)) = False:=eq_false (by omega)
    have hall:xs.take j = xs:=List.take_of_length_le (by omega)
    rw [hall] at htk ⊢
    refine gw169 (Yp hL i1) ?_
    refine qY.out L ⟨hL,htk⟩ ?_
    exact gw7 Y0
  ·rintro L ⟨hL,htk⟩
   have hcl:(keepF p xs).length ≤ xs.length:=List.length_filter_le _ _
   obtain ⟨c,hc⟩:∃ c,c = (keepF p xs).length:=⟨_,rfl⟩
   rw [← hc] at htk hcl ⊢
   have i1:((c:Int) ≤ (xs.length:Int)) = True:=eq_true (by omega)
   have i2:((0:Int) ≤ (c:Int)) = True:=eq_true (by omega)
   have i3:((xs.length:Int) ≤ (xs.length:Int)) = True:=eq_true (by omega)
   have htn:((xs.length:Int)).toNat = xs.length:=Int.toNat_natCast _
   refine gw169 Y0 ?_
   refine qJ.regCut (qQ 42) Tab.none 3 (s1:=?_) ?_ ?_
   rotate_left 1
   focus (refine Work.mk ?_;simp only [Zg,Zi,seval,reduceCtorEq,Nat.reduceEqDiff,hL,i1,i2,i3,Int.toNat_natCast];with_reducible rfl)
   simp only [List.toList_toArray,List.drop_succ_cons,List.drop_zero]
   refine qZ.clear (qQ 42) (x:=.tmp 38) (t:=65) (i:=⟨69,[.int 0,.sl 1 [],.sl 1 []],56⟩) (key:=0) (j:=c) (m:=xs.length - c) rfl rfl rfl rfl rfl rfl rfl (by rw [hL];omega) ?_
   refine qZ.nil ?_
   refine gw169 Y0 ?_
   refine qJ.regCut (qQ 42) Tab.none 2 (s1:=?_) ?_ ?_
   rotate_left 1
   focus (refine Work.mk ?_;simp only [Zg,Zi,seval,reduceCtorEq,Nat.reduceEqDiff];with_reducible rfl)
   simp only [List.toList_toArray,List.drop_succ_cons,List.drop_zero]
   refine qZ.trunc (qQ 42) (x:=.tmp 39) (hi:=.tmp 40) (t:=65) (i:=⟨69,[.int 0,.sl 1 [],.sl 1 []],56⟩) (d:=41) (key:=0) (m:=xs.length) (n:=c) rfl rfl rfl (by decide) rfl rfl rfl rfl (by simp [hL];omega) (fun q u hq hu => ?_) ?_
   ·simp only [look] at hu
    split at hu
    ·rename_i e;exact absurd e.symm hq
    ·cases hu
   ·have ht2:(L.take c ++ List.replicate (xs.length - c) [D.int 0,D.sl 1 [],D.sl 1 []]).take c = (keepF p xs).map e:=by
     rw [List.take_append_of_le_length (by rw [List.length_take];omega),List.take_take,Nat.min_self,htk]
    rw [ht2]
    refine qZ.opsT (qQ 42) (T:=Tab.none) (s':=?_) ?_ ?_
    rotate_left 1
    focus (simp only [Zg,Zi,seval,reduceCtorEq,Nat.reduceEqDiff];with_reducible rfl)
    refine gw169 Y0 ?_
    exact gw2
end Go.Proofs.YtedgfkpfhonlpaaGreat
