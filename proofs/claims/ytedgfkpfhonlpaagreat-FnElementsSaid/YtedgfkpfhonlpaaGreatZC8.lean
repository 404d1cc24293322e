/- Lemmas (8). -/
import Derived.BigQuiet
import Derived.ChangeSame
import Derived.Test.YtedgfkpfhonlpaaGreatZC0
import Derived.Test.YtedgfkpfhonlpaaGreatZC1
import Derived.Test.YtedgfkpfhonlpaaGreatZC3
import Derived.Test.YtedgfkpfhonlpaaGreatZC4
import Derived.Test.YtedgfkpfhonlpaaGreatZC5
import Derived.Test.YtedgfkpfhonlpaaGreatZC6
import Derived.Test.YtedgfkpfhonlpaaGreatZC7
set_option maxHeartbeats 16000000
set_option maxRecDepth 100000
set_option linter.unusedSimpArgs false
set_option linter.unusedVariables false
namespace Go.Proofs.YtedgfkpfhonlpaaGreat
open Go.RowKit
section
section
variable {β:Type} {S:Rep β} {w:World}
end
def szN:List (Int × List (List Int))→Nat
 | [] => 0
 | p :: ps => (p.2.length + qX p.2) + szN ps
def szP (e:List (Int × List (List Int))):Prop:=e.length + szN e ≤ 1048576
theorem szN_mem:∀ {e:List (Int × List (List Int))} {p:Int × List (List Int)},p ∈ e→p.2.length + qX p.2 ≤ szN e
 | q :: e,p,h => by
  rcases List.mem_cons.1 h with rfl|h
  ·unfold szN;omega
  ·have:=szN_mem h;unfold szN;omega
theorem tPartI:ST Tryz.prog 50 71 (.agg #[.int .i64 0,.slice none 0 0]) 2 32:=ST.mk' (by kernel_rfl) (by kernel_rfl) rfl (by decide)
end
section
def ePt (x:Int × List (List Int)):List D:=[.int x.1,.sl 1 (x.2.map eL)]
def codPt:Cod (Int × List (List Int)):=codP 1 codI codLL (fun _ => rfl)
theorem yY (xs:List (Int × List (List Int))):(codS 2 codPt).d [.sl 2 (xs.map ePt)] = some xs:=(codS 2 codPt).de xs
end
section
theorem szP.at {e:List (Int × List (List Int))} (h:szP e) {i:Nat} (hi:i < e.length):qX e[i].2 ≤ 1048576∧e[i].2.length ≤ 1048576:=by
 have:=szN_mem (List.getElem_mem hi)
 unfold szP at h
 omega
theorem okP_no1 {e:Elt} {i:Nat} {c:Int} {f:List (List Int)} (h:e.getD i (0,[]) = (c,f)) (hc:isNum c = false ∨ c = 0):okP e i = false:=by
 unfold okP
 rw [h]
 unfold isNum inR at hc
 by_cases h1:1 ≤ c
 ·have h2:¬ c < 10007:=by simp at hc;omega
  rw [decide_eq_false h2,Bool.and_false,Bool.false_and,Bool.false_and]
 ·rw [decide_eq_false h1,Bool.false_and,Bool.false_and,Bool.false_and]
theorem okP_no2 {e:Elt} {i:Nat} {c:Int} {f:List (List Int)} (h:e.getD i (0,[]) = (c,f)) (hc:forB f = false):okP e i = false:=by
 unfold okP;rw [h,hc,Bool.and_false,Bool.false_and]
theorem okP_no3 {e:Elt} {i:Nat} {c:Int} {f g:List (List Int)} {k:Int} (h:e.getD i (0,[]) = (c,f)) (h2:e.getD (i - 1) (0,[]) = (k,g)) (h0:i ≠ 0) (hc:¬ cmpF g f < 0):okP e i = false:=by
 unfold okP;rw [h,h2,decide_eq_false h0,decide_eq_false hc,Bool.or_self,Bool.and_false]
theorem okP_yes {e:Elt} {i:Nat} {c:Int} {f g:List (List Int)} {k:Int} (h:e.getD i (0,[]) = (c,f)) (h2:e.getD (i - 1) (0,[]) = (k,g)) (hn:isNum c = true) (h1:c ≠ 0) (hf:forB f = true) (h0:i = 0 ∨ cmpF g f < 0):okP e i = true:=by
 unfold isNum inR at hn
 simp at hn
 unfold okP
 rw [h,h2,decide_eq_true (show 1 ≤ c by omega),decide_eq_true (show c < 10007 by omega),hf]
 rcases h0 with h0|h0
 ·rw [decide_eq_true h0];rfl
 ·rw [decide_eq_true h0,Bool.or_true];rfl
end
section
theorem jV0 (n:Int):AFn Tryz.prog 86 [eI n] (· = [.val (.bool (isNum n))]):=afn_I_s (v:=.bool _) (enters_of Tryz.func86 rfl rfl) (fun _ _ => jD.2 rfl) (fun w => c_impl_IsNumber n w)
noncomputable def TEl:Tab Tryz.prog :=
 ((Tab.none.add 86 (tab1 codI fun n => some [.val (.bool (isNum n))]) (yJ fun n rs h => by cases h;exact jV0 n)).add
   59 (tab1 codLL fun f => if qX f ≤ 1048576∧f.length ≤ 1048576 then some [.val (.bool (forB f))] else none) (yJ fun f rs h => by split at h;cases h;rename_i hs;exact a_impl_IsForest f (by omega) (by omega);cases h)).add
   87 (tab2 codLL codLL fun f g => if qX f ≤ 1048576∧qX g ≤ 1048576 then some [.val (.int (cmpF f g))] else none) (xF fun f g rs h => by split at h;cases h;rename_i hs;exact yX0 f g (by omega) (by omega);cases h)
theorem vI (e:Elt) (hsz:szP e):AFn Tryz.prog 32 [[.sl 2 (e.map ePt)]] (· = [.val (.bool (elB e))]):=by
 refine AFn.of_runs (qQ 47) Tryz.func32 rfl rfl rfl gz ?_
 have hres:Tryz.f32.results.toList = [.tmp 2]:=rfl
 have hrts:Tryz.f32.resultTypes.toList = [4]:=rfl
 simp only [qV,qU,eL,eI,eLL,eB,Nat.zero_add,Nat.reduceAdd]
 intro M
 refine qJ.of ?_
 have hln:e.length ≤ 1048576:=by unfold szP at hsz;omega
 by_cases h3:e.length ≤ 300
 ·have i8:((e.length:Int) > 300) = False:=eq_false (by omega)
  refine gw19 i8 ?_
  refine qJ.loop (β:=Nat) (γ:=Unit) (fun i => ⟨[(0,.c (.val (.sl 2 (e.map ePt)))),(8,.c (.val (.sl 2 (e.map ePt)))),(9,.c (.val (.int e.length))),(10,.c (.val (.int i)))],[]⟩) (fun i => i ≤ e.length∧(List.range i).all (okP e) = true) (fun i => e.length - i)
   (fun _ => ⟨[],[]⟩) (fun _ => (List.range e.length).all (okP e) = true) 0 ⟨Nat.zero_le _,rfl⟩ ?_ ?_ ?_
  ·exact gw20
  ·rintro i ⟨hi,hall⟩
   have hw:=jW (n:=i) (by omega)
   by_cases h:i < e.length
   ·have i1:((i:Int) < (e.length:Int)) = True:=eq_true (by omega)
    have i2:((0:Int) ≤ (i:Int)) = True:=eq_true (by omega)
    have hs1:=hsz.at h
    obtain ⟨c,f,ht⟩:∃ c f,(c,f) = e[i]:=⟨_,_,rfl⟩
    have hg:(e.map ePt)[i]? = some [.int c,.sl 1 (f.map eL)]:=by rw [qN h,← ht];rfl
    have hgd:e.getD i (0,[]) = (c,f):=by rw [yV h,ht]
    rw [← ht] at hs1
    simp only at hs1
    have s1:=eq_true hs1
    have s1':=eq_true hs1.1
    by_cases hc0:c = 0
    ·have e0:(c == 0) = true:=by rw [hc0];rfl
     have hB:elB e = false:=by unfold elB;rw [xT h (okP_no1 hgd (.inr hc0)),Bool.and_false]
     rw [hB]
     refine gw21 (Y5 i1 i2 hg hw e0) ?_
     refine qW.ret ?_
     refine gw22 Y0 ?_
     exact gw2
    ·have e0:(c == 0) = false:=beq_eq_false_iff_ne.2 hc0
     by_cases hn:isNum c = true
     ·by_cases hf:forB f = true
      ·by_cases h0:i = 0
       ·have j1:((i:Int) > 0) = False:=eq_false (by omega)
        have hok:okP e i = true:=okP_yes hgd rfl hn hc0 hf (.inl h0)
        refine gw21 (Y9 i1 i2 hg hw e0 hn hf s1 j1) ?_
        refine qW.on (i + 1) ⟨⟨h,kB hall hok⟩,by omega⟩ ?_
        exact gw7 Y0
       ·have j1:((i:Int) > 0) = True:=eq_true (by omega)
        have hw1:w64 ((i:Int) - 1) = ((i - 1:Nat):Int):=by rw [qG (by omega)];omega
        have i3:((0:Int) ≤ ((i - 1:Nat):Int)) = True:=eq_true (by omega)
        have i4:(((i - 1:Nat):Int) < (e.length:Int)) = True:=eq_true (by omega)
        have hs2:=hsz.at (show i - 1 < e.length by omega)
        obtain ⟨k,g,ht2⟩:∃ k g,(k,g) = e[i - 1]:=⟨_,_,rfl⟩
        have hg2:(e.map ePt)[i - 1]? = some [.int k,.sl 1 (g.map eL)]:=by rw [qN (by omega),← ht2];rfl
        have hgd2:e.getD (i - 1) (0,[]) = (k,g):=by rw [yV (by omega),ht2]
        rw [← ht2] at hs2
        simp only at hs2
        have s2:(qX g ≤ 1048576∧qX f ≤ 1048576) = True:=eq_true ⟨hs2.1,hs1.1⟩
        by_cases hk:cmpF g f < 0
        ·have hok:okP e i = true:=okP_yes hgd hgd2 hn hc0 hf (.inr hk)
         have k1:(cmpF g f ≥ 0) = False:=eq_false (by omega)
         refine gw21 (Y12 i1 i2 i3 i4 hg hg2 hw hw1 e0 hn hf (Y4 s1 s2 j1 k1)) ?_
         refine qW.on (i + 1) ⟨⟨h,kB hall hok⟩,by omega⟩ ?_
         exact gw7 Y0
        ·have hB:elB e = false:=by unfold elB;rw [xT h (okP_no3 hgd hgd2 h0 hk),Bool.and_false]
         have k1:(cmpF g f ≥ 0) = True:=eq_true (by omega)
         rw [hB]
         refine gw21 (Y12 i1 i2 i3 i4 hg hg2 hw hw1 e0 hn hf (Y4 s1 s2 j1 k1)) ?_
         refine qW.ret ?_
         refine gw22 Y0 ?_
         exact gw2
      ·have hf:forB f = false:=by simpa using hf
       have hB:elB e = false:=by unfold elB;rw [xT h (okP_no2 hgd hf),Bool.and_false]
       rw [hB]
       refine gw21 (Y8 i1 i2 hg hw e0 hn hf s1) ?_
       refine qW.ret ?_
       refine gw22 Y0 ?_
       exact gw2
     ·have hn:isNum c = false:=by simpa using hn
      have hB:elB e = false:=by unfold elB;rw [xT h (okP_no1 hgd (.inl hn)),Bool.and_false]
      rw [hB]
      refine gw21 (Y6 i1 i2 hg hw e0 hn) ?_
      refine qW.ret ?_
      refine gw22 Y0 ?_
      exact gw2
   ·have i1:((i:Int) < (e.length:Int)) = False:=eq_false (by omega)
    obtain rfl:i = e.length:=by omega
    refine gw22 i1 ?_
    refine qW.out () hall ?_
    exact gw7 Y0
  ·rintro _ hall
   have hB:elB e = true:=by unfold elB;rw [hall,decide_eq_true h3];rfl
   rw [hB]
   refine gw22 Y0 ?_
   exact gw2
 ·have i8:((e.length:Int) > 300) = True:=eq_true (by omega)
  have hB:elB e = false:=by unfold elB;rw [decide_eq_false h3,Bool.false_and]
  rw [hB]
  refine gw19 i8 ?_
  exact gw2
end
section
noncomputable def TElS:Tab Tryz.prog :=
 ((Tab.none.add 135 (tab3 codI codI codI fun x y z => some [.val (.bool (inR x y z))]) (tab3_ok fun x y z rs h => by cases h;exact a_spec_l01In x y z)).add
   65 (tab1 codLL fun f => if qX f ≤ 1048576∧f.length ≤ 1048576 then some [.val (.bool (forB f))] else none) (yJ fun f rs h => by split at h;cases h;rename_i hs;exact a_l03Forest f (by omega) (by omega);cases h)).add
   136 (tab2 codLL codLL fun f g => if (qX f ≤ 1048576∧qX g ≤ 1048576)∧(f.length ≤ 1048576∧g.length ≤ 1048576) then some [.val (.int (sgn (cmpF f g)))] else none) (xF fun f g rs h => by split at h;cases h;rename_i hs;exact a_l06Order f g (by omega) (by omega) (by omega) (by omega);cases h)
theorem sgn_ge {n:Int}:(sgn n ≥ 0) = (¬ n < 0):=by
 unfold sgn
 by_cases h:n < 0
 ·rw [if_pos h];exact propext ⟨fun h => absurd h (by decide),fun k => absurd h k⟩
 ·rw [if_neg h];split <;> exact propext ⟨fun _ => h,fun _ => by decide⟩
theorem a_l06Is (e:Elt) (hsz:szP e):AFn Tryz.prog 70 [[.sl 2 (e.map ePt)]] (· = [.val (.bool (elB e))]):=by
 refine AFn.of_runs (qQ 48) Tryz.func70 rfl rfl rfl gz ?_
 have hres:Tryz.f70.results.toList = [.tmp 2]:=rfl
 have hrts:Tryz.f70.resultTypes.toList = [4]:=rfl
 simp only [qV,qU,eL,eI,eLL,eB,Nat.zero_add,Nat.reduceAdd]
 intro M
 refine qJ.of ?_
 have hln:e.length ≤ 1048576:=by unfold szP at hsz;omega
 refine gw23 Y0 ?_
 refine qJ.loop (β:=Nat) (γ:=Unit) (fun i => ⟨[(0,.c (.val (.sl 2 (e.map ePt)))),(3,.c (.val (.int i)))],[]⟩) (fun i => i ≤ e.length∧(List.range i).all (okP e) = true) (fun i => e.length - i)
  (fun _ => ⟨[(0,.c (.val (.sl 2 (e.map ePt))))],[]⟩) (fun _ => (List.range e.length).all (okP e) = true) 0 ⟨Nat.zero_le _,rfl⟩ ?_ ?_ ?_
 ·exact gw7 Y0
 ·rintro i ⟨hi,hall⟩
  have hw:=jW (n:=i) (by omega)
  by_cases h:i < e.length
  ·have i1:((i:Int) < (e.length:Int)) = True:=eq_true (by omega)
   have i2:((0:Int) ≤ (i:Int)) = True:=eq_true (by omega)
   have hs1:=hsz.at h
   obtain ⟨c,f,ht⟩:∃ c f,(c,f) = e[i]:=⟨_,_,rfl⟩
   have hg:(e.map ePt)[i]? = some [.int c,.sl 1 (f.map eL)]:=by rw [qN h,← ht];rfl
   have hgd:e.getD i (0,[]) = (c,f):=by rw [yV h,ht]
   rw [← ht] at hs1
   simp only at hs1
   have s1:=eq_true hs1
   by_cases hn:inR c 1 10006 = true
   ·have hn1:isNum c = true∧c ≠ 0:=by unfold inR at hn;unfold isNum inR;simp at hn ⊢;omega
    by_cases hf:forB f = true
    ·by_cases h0:i = 0
     ·have j1:((i:Int) > 0) = False:=eq_false (by omega)
      have hok:okP e i = true:=okP_yes hgd rfl hn1.1 hn1.2 hf (.inl h0)
      refine gw24 (Y8 i1 i2 hg hw hn hf s1 j1) ?_
      refine qW.on (i + 1) ⟨⟨h,kB hall hok⟩,by omega⟩ ?_
      exact gw7 Y0
     ·have j1:((i:Int) > 0) = True:=eq_true (by omega)
      have hw1:w64 ((i:Int) - 1) = ((i - 1:Nat):Int):=by rw [qG (by omega)];omega
      have i3:((0:Int) ≤ ((i - 1:Nat):Int)) = True:=eq_true (by omega)
      have i4:(((i - 1:Nat):Int) < (e.length:Int)) = True:=eq_true (by omega)
      have hs2:=hsz.at (show i - 1 < e.length by omega)
      obtain ⟨k,g,ht2⟩:∃ k g,(k,g) = e[i - 1]:=⟨_,_,rfl⟩
      have hg2:(e.map ePt)[i - 1]? = some [.int k,.sl 1 (g.map eL)]:=by rw [qN (by omega),← ht2];rfl
      have hgd2:e.getD (i - 1) (0,[]) = (k,g):=by rw [yV (by omega),ht2]
      rw [← ht2] at hs2
      simp only at hs2
      have s2:((qX g ≤ 1048576∧qX f ≤ 1048576)∧(g.length ≤ 1048576∧f.length ≤ 1048576)) = True:=eq_true ⟨⟨hs2.1,hs1.1⟩,hs2.2,hs1.2⟩
      by_cases hk:cmpF g f < 0
      ·have hok:okP e i = true:=okP_yes hgd hgd2 hn1.1 hn1.2 hf (.inr hk)
       have k1:(sgn (cmpF g f) ≥ 0) = False:=by rw [sgn_ge];exact eq_false (fun k => k hk)
       refine gw24 (Y12 i1 i2 i3 i4 hg hg2 hw hw1 hn hf s1 (Y3 s2 j1 k1)) ?_
       refine qW.on (i + 1) ⟨⟨h,kB hall hok⟩,by omega⟩ ?_
       exact gw7 Y0
      ·have hB:elB e = false:=by unfold elB;rw [xT h (okP_no3 hgd hgd2 h0 hk),Bool.and_false]
       have k1:(sgn (cmpF g f) ≥ 0) = True:=by rw [sgn_ge];exact eq_true hk
       rw [hB]
       refine gw24 (Y12 i1 i2 i3 i4 hg hg2 hw hw1 hn hf s1 (Y3 s2 j1 k1)) ?_
       refine qW.ret ?_
       refine gw25 ?_
       exact gw2
    ·have hf:forB f = false:=by simpa using hf
     have hB:elB e = false:=by unfold elB;rw [xT h (okP_no2 hgd hf),Bool.and_false]
     rw [hB]
     refine gw24 (Y7 i1 i2 hg hw hn hf s1) ?_
     refine qW.ret ?_
     refine gw25 ?_
     exact gw2
   ·have hn:inR c 1 10006 = false:=by simpa using hn
    have hB:elB e = false:=by
     unfold elB
     rw [xT h (okP_no1 hgd ?_),Bool.and_false]
     unfold inR at hn
     unfold isNum inR
     simp at hn ⊢
     omega
    rw [hB]
    refine gw24 (Y5 i1 i2 hg hw hn) ?_
    refine qW.ret ?_
    refine gw25 ?_
    exact gw2
  ·have i1:((i:Int) < (e.length:Int)) = False:=eq_false (by omega)
   obtain rfl:i = e.length:=by omega
   refine gw23 i1 ?_
   refine qW.out () hall ?_
   exact gw7 Y0
 ·rintro _ hall
  have hB:elB e = decide ((e.length:Int) ≤ 300):=by
   unfold elB;rw [hall,Bool.and_true]
   exact decide_eq_decide.2 (by omega)
  rw [hB]
  refine gw23 Y0 ?_
  exact gw2
end
section
theorem a_spec_IsElement (e:Elt) (hz:szP e):AFn Tryz.prog 33 [[.sl 2 (e.map ePt)]] (· = [.val (.bool (elB e))]):=by
 have ha:=a_l06Is e hz
 refine AFn.of_runs (qQ 5) Tryz.func33 rfl rfl rfl gz ?_
 have hres:Tryz.f33.results.toList = [.tmp 2]:=rfl
 have hrts:Tryz.f33.resultTypes.toList = [4]:=rfl
 simp only [qV,qU,eL,eI,eLL,eB,Nat.zero_add,Nat.reduceAdd]
 intro M
 refine qJ.of ?_
 refine gw26 ?_
 exact gw2
end
section
theorem degE_last {e:Elt} {c:Int} {f:List (List Int)} (h:e[e.length - 1]? = some (c,f)):degE e = qX f:=by
 unfold degE
 rw [List.getLast?_eq_getElem?,h]
theorem a_l06Degree (e:Elt) (hz:szP e):AFn Tryz.prog 84 [[.sl 2 (e.map ePt)]] (· = [.val (.int (degE e))]):=by
 refine AFn.of_runs (qQ 14) Tryz.func84 rfl rfl rfl gz ?_
 have hres:Tryz.f84.results.toList = [.tmp 2]:=rfl
 have hrts:Tryz.f84.resultTypes.toList = [2]:=rfl
 simp only [qV,qU,eL,eI,eLL,eB,Nat.zero_add,Nat.reduceAdd]
 intro M
 refine qJ.of ?_
 by_cases h0:e.length = 0
 ·have i0:((e.length:Int) == 0) = true:=by rw [h0];rfl
  rw [show degE e = -1 by rw [List.eq_nil_of_length_eq_zero h0];rfl]
  refine gw27 i0 ?_
  exact gw2
 ·have i0:((e.length:Int) == 0) = false:=beq_eq_false_iff_ne.2 (by omega)
  have hln:e.length ≤ 1048576:=by unfold szP at hz;omega
  have hs:=hz.at (show e.length - 1 < e.length by omega)
  obtain ⟨c,f,ht⟩:∃ c f,(c,f) = e[e.length - 1]:=⟨_,_,rfl⟩
  rw [← ht] at hs
  simp only at hs
  have hg:(e.map ePt)[e.length - 1]? = some [.int c,.sl 1 (f.map eL)]:=by rw [qN (by omega),← ht];rfl
  have hd:=degE_last (e:=e) (c:=c) (f:=f) (by rw [List.getElem?_eq_getElem (by omega),← ht])
  have hn:jV f = qX f:=xE f (by omega)
  have ha:=a_l03Nodes f
  simp only [eLL] at ha
  have hw:w64 ((e.length:Int) - 1) = ((e.length - 1:Nat):Int):=by rw [qG (by omega)];omega
  have i1:((0:Int) ≤ ((e.length - 1:Nat):Int)) = True:=eq_true (by omega)
  have i2:(((e.length - 1:Nat):Int) < (e.length:Int)) = True:=eq_true (by omega)
  rw [hd,← hn]
  refine gw28 (Y5 i0 i1 i2 hg hw) ?_
  exact gw2
theorem a_impl_DegreeOf (e:Elt) (hz:szP e):AFn Tryz.prog 34 [[.sl 2 (e.map ePt)]] (· = [.val (.int (degOf e).1),.val (.int (degOf e).2)]):=by
 have he:=vI e hz
 unfold degOf
 refine AFn.of_runs (qQ 18) Tryz.func34 rfl rfl rfl gz ?_
 have hres:Tryz.f34.results.toList = [.tmp 2,.tmp 3]:=rfl
 have hrts:Tryz.f34.resultTypes.toList = [2,2]:=rfl
 simp only [qV,qU,eL,eI,eLL,eB,Nat.zero_add,Nat.reduceAdd]
 intro M
 refine qJ.of ?_
 by_cases hE:elB e = true
 ·rw [if_pos hE]
  rw [hE] at he
  by_cases h0:e.length = 0
  ·have i0:((e.length:Int) == 0) = true:=by rw [h0];rfl
   rw [show degE e = -1 by rw [List.eq_nil_of_length_eq_zero h0];rfl]
   refine gw29 i0 ?_
   exact gw2
  ·have i0:((e.length:Int) == 0) = false:=beq_eq_false_iff_ne.2 (by omega)
   have hln:e.length ≤ 1048576:=by unfold szP at hz;omega
   have hs:=hz.at (show e.length - 1 < e.length by omega)
   obtain ⟨c,f,ht⟩:∃ c f,(c,f) = e[e.length - 1]:=⟨_,_,rfl⟩
   rw [← ht] at hs
   simp only at hs
   have hg:(e.map ePt)[e.length - 1]? = some [.int c,.sl 1 (f.map eL)]:=by rw [qN (by omega),← ht];rfl
   have hd:=degE_last (e:=e) (c:=c) (f:=f) (by rw [List.getElem?_eq_getElem (by omega),← ht])
   have hn:jV f = qX f:=xE f (by omega)
   have ha:=a_nodesIn f
   simp only [eLL] at ha
   have hw:w64 ((e.length:Int) - 1) = ((e.length - 1:Nat):Int):=by rw [qG (by omega)];omega
   have i1:((0:Int) ≤ ((e.length - 1:Nat):Int)) = True:=eq_true (by omega)
   have i2:(((e.length - 1:Nat):Int) < (e.length:Int)) = True:=eq_true (by omega)
   rw [hd,← hn]
   refine gw30 (Y5 i0 i1 i2 hg hw) ?_
   exact gw2
 ·rw [if_neg hE]
  have hE:elB e = false:=by simpa using hE
  rw [hE] at he
  refine gw31 ?_
  exact gw2
end
section
def Eqm (a b:Int):Prop:=∃ k,a = b + 10007 * k
theorem Eqm.refl (a:Int):Eqm a a:=⟨0,by omega⟩
theorem Eqm.of {a b:Int} (h:a = b):Eqm a b:=h ▸ Eqm.refl a
theorem Eqm.symm {a b:Int}:Eqm a b→Eqm b a:=fun ⟨k,h⟩ => ⟨-k,by omega⟩
theorem Eqm.trans {a b d:Int}:Eqm a b→Eqm b d→Eqm a d:=fun ⟨k,h⟩ ⟨m,h'⟩ => ⟨k + m,by omega⟩
theorem Eqm.add {a b d e:Int}:Eqm a b→Eqm d e→Eqm (a + d) (b + e):=fun ⟨k,h⟩ ⟨m,h'⟩ => ⟨k + m,by omega⟩
theorem Eqm.mulL {a b:Int} (d:Int):Eqm a b→Eqm (d * a) (d * b):=fun ⟨k,h⟩ => ⟨d * k,by rw [h,Int.mul_add,Int.mul_left_comm]⟩
theorem Eqm.mulR {a b:Int} (d:Int):Eqm a b→Eqm (a * d) (b * d):=fun h => by rw [Int.mul_comm a,Int.mul_comm b];exact h.mulL d
theorem Eqm.mul {a b d e:Int} (h:Eqm a b) (h':Eqm d e):Eqm (a * d) (b * e):=(h.mulR d).trans (h'.mulL b)
theorem eqm_mP (a:Int):Eqm (mP a) a:=⟨-(a / 10007),by unfold mP;omega⟩
theorem Eqm.mP {a b:Int}:Eqm a b→mP a = mP b:=fun ⟨k,h⟩ => by unfold Go.Proofs.YtedgfkpfhonlpaaGreat.mP;omega
section
variable {κ:Type}
def lin (F:κ→Int):List (Int × κ)→Int
 | [] => 0
 | q :: L => q.1 * F q.2 + lin F L
theorem xJ (F:κ→Int) (q:Int × κ) (L:List (Int × κ)):lin F (q :: L) = q.1 * F q.2 + lin F L:=rfl
theorem vW (F:κ→Int):∀ (L M:List (Int × κ)),lin F (L ++ M) = lin F L + lin F M
 | [],M => by simp [lin]
 | q :: L,M => by rw [List.cons_append,xJ,xJ,vW F L M];omega
theorem lin_map {α:Type} (F:κ→Int) (g:α→κ) (k:Int):∀ (L:List (Int × α)),Eqm (lin F (L.map fun q => (mP (q.1 * k),g q.2))) (k * lin (fun a => F (g a)) L)
 | [] => by simp [lin];exact Eqm.refl _
 | q :: L => by
  rw [List.map_cons,xJ,xJ,Int.mul_add]
  refine Eqm.add ?_ (lin_map F g k L)
  have h:=(eqm_mP (q.1 * k)).mulR (F (g q.2))
  rw [show q.1 * k * F (g q.2) = k * (q.1 * F (g q.2)) by rw [Int.mul_comm q.1 k,Int.mul_assoc]] at h
  exact h
variable {c:κ→κ→Int} (hc:Cmp c)
def oneS (c:κ→κ→Int) (z x:κ):Int:=if c x z = 0 then 1 else 0
theorem coef_lin (z:κ):∀ (L:List (Int × κ)),coef c L z = lin (oneS c z) L
 | [] => rfl
 | q :: L => by
  rw [jE,xJ,coef_lin z L]
  unfold oneS
  split <;> omega
include hc
theorem lin_putS (F:κ→Int):∀ (L:List (Int × κ)) (k:Int) (x:κ),Eqm (lin F (putS c L k x)) (lin F L + k * F x)
 | [],k,x => by
  unfold putS
  split
  ·rename_i h;subst h;simp [lin];exact Eqm.refl _
  ·refine Eqm.of ?_
   simp only [lin];omega
 | (a,y) :: L,k,x => by
  unfold putS
  split
  ·rename_i h;subst h
   refine Eqm.of ?_
   simp
  ·split
   ·refine Eqm.of ?_
    simp only [lin];omega
   ·split
    ·rename_i h
     obtain rfl:=hc.zero x y h
     have e:Eqm (mP (a + k) * F x) (a * F x + k * F x):=by
      have:=(eqm_mP (a + k)).mulR (F x)
      rwa [Int.add_mul] at this
     obtain ⟨j,hj⟩:=e
     split
     ·rename_i h4
      rw [h4,Int.zero_mul] at hj
      refine ⟨j,?_⟩
      simp only [lin];omega
     ·refine ⟨j,?_⟩
      simp only [lin];omega
    ·have ih:=lin_putS F L k x
     obtain ⟨j,hj⟩:=ih
     refine ⟨j,?_⟩
     simp only [lin];omega
theorem lin_addS (F:κ→Int):∀ (M L:List (Int × κ)),Eqm (lin F (addS c L M)) (lin F L + lin F M)
 | [],L => Eqm.of (by simp [addS,lin])
 | q :: M,L => by
  have h1:=lin_addS F M (putS c L q.1 q.2)
  have h2:=lin_putS hc F L q.1 q.2
  obtain ⟨j,hj⟩:=h1
  obtain ⟨i,hi⟩:=h2
  refine ⟨i + j,?_⟩
  show lin F (addS c (putS c L q.1 q.2) M) = _
  rw [xJ];omega
theorem kM (F:κ→Int) (M:List (Int × κ)):Eqm (lin F (sumS c M)) (lin F M):=by
 have:=lin_addS hc F M []
 rwa [show lin F [] = 0 from rfl,Int.zero_add] at this
theorem nf_lin {L M:List (Int × κ)} (hL:NfS c L) (hM:NfS c M) (h:∀ F:κ→Int,Eqm (lin F L) (lin F M)):L = M :=
 NfS.ext hc hL hM (fun z => by rw [coef_lin,coef_lin];exact (h _).mP)
theorem sum_lin {L M:List (Int × κ)} (hL:∀ q ∈ L,0 ≤ q.1∧q.1 < 10007) (hM:∀ q ∈ M,0 ≤ q.1∧q.1 < 10007) (h:∀ F:κ→Int,Eqm (lin F L) (lin F M)):sumS c L = sumS c M :=
 nf_lin hc (kU hc hL) (kU hc hM) (fun F => (kM hc F L).trans ((h F).trans (kM hc F M).symm))
omit hc
theorem addS_memL:∀ (M L:List (Int × κ)) {q:Int × κ},q ∈ addS c L M→(∃ p ∈ L,p.2 = q.2) ∨ ∃ p ∈ M,p.2 = q.2
 | [],L,q,h => .inl ⟨q,h,rfl⟩
 | r :: M,L,q,h => by
  rcases addS_memL M (putS c L r.1 r.2) h with ⟨p,h1,h2⟩|⟨p,h1,h2⟩
  ·rcases putS_mem L r.1 r.2 h1 with h3|⟨p',h3,h4⟩
   ·exact .inr ⟨r,by simp,by rw [← h2,h3]⟩
   ·exact .inl ⟨p',h3,by rw [h4,h2]⟩
  ·exact .inr ⟨p,by simp [h1],h2⟩
theorem sumS_mem {M:List (Int × κ)} {q:Int × κ} (h:q ∈ sumS c M):∃ p ∈ M,p.2 = q.2:=by
 rcases addS_memL M [] h with ⟨p,h1,_⟩|h
 ·cases h1
 ·exact h
end
theorem lin_prodL (F:List (List Int)→Int) (d e:Elt):Eqm (lin F (prodL d e)) (lin (fun x => lin (fun y => F (mulF x y)) e) d):=by
 induction d with
 | nil => exact Eqm.refl _
 | cons p d ih =>
  have e1:prodL (p :: d) e = (e.map fun q => (mP (p.1 * q.1),mulF p.2 q.2)) ++ prodL d e:=by unfold prodL;rw [List.flatMap_cons]
  rw [e1,vW,xJ]
  refine Eqm.add ?_ ih
  have h:=lin_map F (mulF p.2) p.1 e
  refine Eqm.trans (Eqm.of ?_) h
  congr 1
  exact List.map_congr_left fun q _ => by rw [Int.mul_comm]
theorem wY {d e:Elt}:∀ q ∈ prodL d e,0 ≤ q.1∧q.1 < 10007:=fun q hq => by
 unfold prodL at hq
 obtain ⟨p,_,hq⟩:=List.mem_flatMap.1 hq
 obtain ⟨r,_,rfl⟩:=List.mem_map.1 hq
 exact jO _
theorem lin_swap {α β:Type} (F:α→β→Int) (d:List (Int × α)) (e:List (Int × β)):lin (fun x => lin (fun y => F x y) e) d = lin (fun y => lin (fun x => F x y) d) e:=by
 induction d with
 | nil =>
  show 0 = lin (fun _ => 0) e
  induction e with
  | nil => rfl
  | cons q e ih => rw [xJ,← ih];omega
 | cons p d ih =>
  rw [xJ,ih]
  clear ih
  induction e with
  | nil => simp [lin]
  | cons q e ih =>
   rw [xJ,xJ,xJ,xJ,← ih,Int.mul_add,Int.mul_add,Int.mul_left_comm p.1 q.1]
   omega
theorem prod_comm (d e:Elt):sumS cmpF (prodL d e) = sumS cmpF (prodL e d) :=
 sum_lin jK wY wY fun F => by
  refine (lin_prodL F d e).trans (Eqm.trans (Eqm.of ?_) (lin_prodL F e d).symm)
  rw [lin_swap]
  congr 1
  funext x
  congr 1
  funext y
  rw [mulF_comm]
theorem pairwise_at {α:Type} {r:α→α→Prop} {l:List α} (h:l.Pairwise r) {i j:Nat} (hi:i < l.length) (hj:j < l.length) (hij:i < j):r l[i] l[j]:=List.pairwise_iff_getElem.1 h i j hi hj hij
theorem forB_of {f:List (List Int)} (h1:qX f ≤ 8) (h2:∀ t ∈ f,canT t = true) (h3:f.Pairwise fun a b => cmpT a b ≤ 0):forB f = true:=by
 unfold forB
 rw [Bool.and_eq_true,kO]
 refine ⟨decide_eq_true h1,fun i hi => ?_⟩
 unfold okT
 rw [yV hi,h2 _ (List.getElem_mem _),Bool.true_and,Bool.or_eq_true]
 rcases Nat.eq_zero_or_pos i with h|h
 ·exact .inl (decide_eq_true h)
 ·refine .inr (decide_eq_true ?_)
  rw [yV (show i - 1 < f.length by omega)]
  exact pairwise_at h3 (by omega) hi (by omega)
theorem elB_of {e:Elt} (h1:e.length ≤ 300) (h2:NfS cmpF e) (h3:∀ p ∈ e,forB p.2 = true):elB e = true:=by
 unfold elB
 rw [Bool.and_eq_true,kO]
 refine ⟨decide_eq_true h1,fun i hi => ?_⟩
 unfold okP
 have h4:=h2.2 _ (List.getElem_mem hi)
 rw [yV hi,h3 _ (List.getElem_mem _),Bool.and_true,decide_eq_true h4.1,decide_eq_true h4.2,Bool.true_and,Bool.true_and,Bool.or_eq_true]
 rcases Nat.eq_zero_or_pos i with h|h
 ·exact .inl (decide_eq_true h)
 ·refine .inr (decide_eq_true ?_)
  rw [yV (show i - 1 < e.length by omega)]
  exact pairwise_at h2.1 (by omega) hi (by omega)
theorem mulF_forB {f g:List (List Int)} (hf:forB f = true) (hg:forB g = true) (h:qX f + qX g ≤ 8):forB (mulF f g) = true:=by
 refine forB_of (by rw [xC];exact h) (fun t ht => ?_) (mulF_sorted f g)
 have:t ∈ f ++ g:=(xO (c:=cmpT) (f ++ g)).subset ht
 rcases List.mem_append.1 this with h|h
 ·exact (kD hf).2.1 t h
 ·exact (kD hg).2.1 t h
theorem limS_ok {L:Elt} (h:(limS L).2 = 0):limS L = (L,0)∧L.length ≤ 300∧∀ p ∈ L,qX p.2 ≤ 8:=by
 unfold limS at h ⊢
 split at h
 ·rename_i h1;rw [if_pos h1];exact ⟨rfl,h1⟩
 ·exact absurd h (by decide)
theorem limS_code (L:Elt):limS L = (L,0) ∨ limS L = ([],3):=by
 unfold limS
 split
 ·exact .inl rfl
 ·exact .inr rfl
theorem limS_of {L:Elt} (h1:L.length ≤ 300) (h2:∀ p ∈ L,qX p.2 ≤ 8):limS L = (L,0):=by unfold limS;rw [if_pos ⟨h1,h2⟩]
theorem vY {d e:Elt} (hd:elB d = true) (he:elB e = true):(timOf d e = (sumS cmpF (prodL d e),0)∧elB (sumS cmpF (prodL d e)) = true) ∨ timOf d e = ([],3):=by
 unfold timOf
 rw [if_pos (by rw [hd,he];rfl)]
 rcases limS_code (sumS cmpF (prodL d e)) with h|h
 ·refine .inl ⟨h,?_⟩
  obtain ⟨_,h1,h2⟩:=limS_ok (by rw [h])
  refine elB_of h1 (kU jK wY) (fun p hp => ?_)
  obtain ⟨q,hq,e1⟩:=sumS_mem hp
  have hs:=h2 p hp
  rw [← e1] at hs ⊢
  unfold prodL at hq
  obtain ⟨a,ha,hq⟩:=List.mem_flatMap.1 hq
  obtain ⟨b,hb,rfl⟩:=List.mem_map.1 hq
  rw [xC] at hs
  exact mulF_forB ((yF hd).2.2.2 a ha) ((yF he).2.2.2 b hb) hs
 ·exact .inr h
theorem tim_bad {d e:Elt} (h:¬ (elB d = true∧elB e = true)):timOf d e = ([],1):=by
 unfold timOf
 rw [if_neg (by rw [Bool.and_eq_true];exact h)]
theorem vD {e:Elt} (h:elB e = true):∀ q ∈ e,0 ≤ q.1∧q.1 < 10007:=fun q hq => by have:=(yF h).2.1.2 q hq;omega
theorem app_range {κ:Type} {d e:List (Int × κ)} (h1:∀ q ∈ d,0 ≤ q.1∧q.1 < 10007) (h2:∀ q ∈ e,0 ≤ q.1∧q.1 < 10007):∀ q ∈ d ++ e,0 ≤ q.1∧q.1 < 10007:=fun q hq => by
 rcases List.mem_append.1 hq with h|h
 ·exact h1 q h
 ·exact h2 q h
theorem wP {d e:Elt} (hd:elB d = true) (he:elB e = true):(addOf d e = (sumS cmpF (d ++ e),0)∧elB (sumS cmpF (d ++ e)) = true) ∨ addOf d e = ([],3):=by
 unfold addOf
 rw [if_pos (by rw [hd,he];rfl)]
 rcases limS_code (sumS cmpF (d ++ e)) with h|h
 ·refine .inl ⟨h,?_⟩
  obtain ⟨_,h1,h2⟩:=limS_ok (by rw [h])
  refine elB_of h1 (kU jK (app_range (vD hd) (vD he))) (fun p hp => ?_)
  obtain ⟨q,hq,e1⟩:=sumS_mem hp
  rw [← e1]
  rcases List.mem_append.1 hq with h|h
  ·exact (yF hd).2.2.2 q h
  ·exact (yF he).2.2.2 q h
 ·exact .inr h
theorem add_bad {d e:Elt} (h:¬ (elB d = true∧elB e = true)):addOf d e = ([],1):=by
 unfold addOf
 rw [if_neg (by rw [Bool.and_eq_true];exact h)]
theorem scl_ok {e:Elt} {k:Int} (he:elB e = true) (hk:1 ≤ k∧k ≤ 10006):sclOf e k = (e.map (fun p => (mP (p.1 * k),p.2)),0)∧elB (e.map fun p => (mP (p.1 * k),p.2)) = true:=by
 obtain ⟨h1,h2,h3,h4⟩:=yF he
 have hnf:NfS cmpF (e.map fun p => (mP (p.1 * k),p.2)):=by
  refine ⟨?_,fun q hq => ?_⟩
  ·exact List.pairwise_map.2 (h2.1.imp fun h => h)
  ·obtain ⟨p,hp,rfl⟩:=List.mem_map.1 hq
   have:=jO (p.1 * k)
   have h0:=prime_mul (h2.2 p hp) (b:=k) (by omega)
   simp only
   omega
 refine ⟨?_,elB_of (by rw [List.length_map];exact h1) hnf (fun q hq => by
  obtain ⟨p,hp,rfl⟩:=List.mem_map.1 hq
  exact h4 p hp)⟩
 unfold sclOf
 rw [if_pos he,if_pos (by unfold inR;rw [Bool.and_eq_true];exact ⟨decide_eq_true (by omega),decide_eq_true (by omega)⟩),sumS_self jK hnf]
end
section
theorem degE_snoc' (L:Elt) (p:Int × List (List Int)):degE (L ++ [p]) = qX p.2:=by
 unfold degE
 rw [List.getLast?_eq_getElem?]
 simp
theorem cmpF_sum {f g:List (List Int)} (h:cmpF f g < 0):qX f ≤ qX g:=by
 rw [cmpF_N] at h
 split at h <;> omega
theorem nf_deg {L:Elt} {p q:Int × List (List Int)} (h:NfS cmpF (L ++ [p])) (hq:q ∈ L ++ [p]):qX q.2 ≤ qX p.2:=by
 rcases List.mem_append.1 hq with hq|hq
 ·exact cmpF_sum ((List.pairwise_append.1 h.1).2.2 q hq p (by simp))
 ·rw [List.mem_singleton] at hq;subst hq;exact Nat.le_refl _
theorem deg_prod {d e:Elt} (hd:elB d = true) (he:elB e = true) :
  (degE (sumS cmpF (prodL d e)) = -1∧(degE d = -1 ∨ degE e = -1)) ∨ (degE (sumS cmpF (prodL d e)) = degE d + degE e∧degE d ≠ -1∧degE e ≠ -1∧degE (sumS cmpF (prodL d e)) ≠ -1):=by
 rcases vE d with rfl|⟨L,p,rfl⟩
 ·exact .inl ⟨rfl,.inl rfl⟩
 rcases vE e with rfl|⟨M,q,rfl⟩
 ·refine .inl ⟨?_,.inr rfl⟩
  have:prodL (L ++ [p]) [] = []:=by unfold prodL;simp
  rw [this];rfl
 obtain ⟨_,n1,s1,_⟩:=yF hd
 obtain ⟨_,n2,s2,_⟩:=yF he
 obtain ⟨r,hr,hs⟩:=prod_deg n1 n2 s1 s2
 have hnf:=kU jK (M:=prodL (L ++ [p]) (M ++ [q])) wY
 have hmem:∀ x ∈ sumS cmpF (prodL (L ++ [p]) (M ++ [q])),qX x.2 ≤ qX p.2 + qX q.2:=fun x hx => by
  obtain ⟨y,hy,e1⟩:=sumS_mem hx
  rw [← e1]
  unfold prodL at hy
  obtain ⟨a,ha,hy⟩:=List.mem_flatMap.1 hy
  obtain ⟨b,hb,rfl⟩:=List.mem_map.1 hy
  simp only
  rw [xC]
  have:=nf_deg n1 ha
  have:=nf_deg n2 hb
  omega
 rw [degE_snoc',degE_snoc']
 generalize sumS cmpF (prodL (L ++ [p]) (M ++ [q])) = S at hr hnf hmem ⊢
 rcases vE S with rfl|⟨K,z,rfl⟩
 ·cases hr
 ·have h1:=nf_deg hnf hr
  have h2:=hmem z (by simp)
  rw [degE_snoc']
  right
  omega
structure EmA (d e p:Elt):Prop where
 bd:elB d = true
 be:elB e = true
 bp:elB p = true
 q:timOf e d = (p,0)
 deg:(degE p = -1∧(degE d = -1 ∨ degE e = -1)) ∨ (degE p = degE d + degE e∧degE d ≠ -1∧degE e ≠ -1∧degE p ≠ -1)
 two:∃ s,sclOf p 2 = (s,0)∧elB s = true
theorem em_one {d e p:Elt} (h:timOf d e = (p,0)):EmA d e p:=by
 by_cases hb:elB d = true∧elB e = true
 ·rcases vY hb.1 hb.2 with ⟨h1,h2⟩|h1
  ·rw [h1] at h
   obtain rfl:sumS cmpF (prodL d e) = p:=(Prod.ext_iff.1 h).1
   refine ⟨hb.1,hb.2,h2,?_,deg_prod hb.1 hb.2,_,scl_ok h2 (by omega)⟩
   rcases vY hb.2 hb.1 with ⟨h3,_⟩|h3
   ·rw [h3,prod_comm]
   ·have e1:=h1
    unfold timOf at e1 h3
    rw [if_pos (by rw [hb.1,hb.2];rfl)] at e1
    rw [if_pos (by rw [hb.1,hb.2];rfl),prod_comm,e1] at h3
    exact absurd (show (0:Int) = 3 from congrArg Prod.snd h3) (by decide)
  ·rw [h1] at h;cases h
 ·rw [tim_bad hb] at h;cases h
def dotE:Elt:=[(1,[[0]])]
theorem dot_elB:elB dotE = true:=by decide
theorem lin_dot (F:List (List Int)→Int) (d:Elt):Eqm (lin F (prodL d dotE)) (lin (fun x => F (mulF x [[0]])) d):=by
 refine (lin_prodL F d dotE).trans (Eqm.of ?_)
 congr 1
 funext x
 show 1 * F (mulF x [[0]]) + 0 = _
 omega
structure EmB (f g s:Elt):Prop where
 bf:elB f = true
 bg:elB g = true
 bs:elB s = true
 minus:∃ m,sclOf g 10006 = (m,0)∧addOf s m = (f,0)
 dist:∃ a x b y h z u v,timOf s dotE = (a,x)∧timOf f dotE = (b,y)∧timOf g dotE = (h,z)∧addOf b h = (u,v)∧(x = 0 ∨ x = 3)∧(y = 0 ∨ y = 3)∧(z = 0 ∨ z = 3)∧(v = 0 ∨ v = 3)∧(x = 0→y = 0→z = 0→v = 0→a = u)
theorem em_two {f g s:Elt} (h:addOf f g = (s,0)):EmB f g s:=by
 by_cases hb:elB f = true∧elB g = true
 rotate_left
 ·rw [add_bad hb] at h;cases h
 obtain ⟨hf,hg⟩:=hb
 rcases wP hf hg with ⟨h1,h2⟩|h1
 rotate_left
 ·rw [h1] at h;cases h
 rw [h1] at h
 obtain rfl:sumS cmpF (f ++ g) = s:=(Prod.ext_iff.1 h).1
 refine ⟨hf,hg,h2,?_,?_⟩
 ·obtain ⟨k1,k2⟩:=scl_ok hg (k:=10006) (by omega)
  refine ⟨_,k1,?_⟩
  have e1:sumS cmpF (sumS cmpF (f ++ g) ++ g.map fun p => (mP (p.1 * 10006),p.2)) = f:=by
   refine nf_lin jK (kU jK (app_range (vD h2) (vD k2))) (yF hf).2.1 fun F => ?_
   refine (kM jK F _).trans ?_
   rw [vW]
   have a1:=kM jK F (f ++ g)
   rw [vW] at a1
   have a2:=lin_map F id 10006 g
   obtain ⟨i,hi⟩:=a1
   obtain ⟨j,hj⟩:=a2
   have hj:lin F (g.map fun p => (mP (p.1 * 10006),p.2)) = 10006 * lin F g + 10007 * j:=hj
   refine ⟨i + j + lin F g,?_⟩
   omega
  unfold addOf
  rw [if_pos (by rw [h2,k2];rfl),e1,limS_of (yF hf).1 (fun p hp => (kD ((yF hf).2.2.2 p hp)).1)]
 ·have cT:∀ {d:Elt},elB d = true→∃ a x,timOf d dotE = (a,x)∧(x = 0 ∨ x = 3)∧elB a = true∧(x = 0→a = sumS cmpF (prodL d dotE)):=fun {d} hd => by
   rcases vY hd dot_elB with ⟨a1,a2⟩|a1
   ·exact ⟨_,_,a1,.inl rfl,a2,fun _ => rfl⟩
   ·exact ⟨_,_,a1,.inr rfl,by decide,fun h => absurd h (by decide)⟩
  obtain ⟨a,x,a1,a2,a3,a4⟩:=cT h2
  obtain ⟨b,y,b1,b2,b3,b4⟩:=cT hf
  obtain ⟨q,z,q1,q2,q3,q4⟩:=cT hg
  have hu:∃ u v,addOf b q = (u,v)∧(v = 0 ∨ v = 3)∧(v = 0→u = sumS cmpF (b ++ q)):=by
   rcases wP b3 q3 with ⟨r1,r2⟩|r1
   ·exact ⟨_,_,r1,.inl rfl,fun _ => rfl⟩
   ·exact ⟨_,_,r1,.inr rfl,fun h => absurd h (by decide)⟩
  obtain ⟨u,v,u1,u2,u3⟩:=hu
  refine ⟨a,x,b,y,q,z,u,v,a1,b1,q1,u1,a2,b2,q2,u2,fun e1 e2 e3 e4 => ?_⟩
  have hb':=b4 e2
  have hq':=q4 e3
  rw [a4 e1,u3 e4]
  refine sum_lin jK wY (app_range (vD b3) (vD q3)) fun F => ?_
  rw [vW,hb',hq']
  refine (lin_dot F _).trans (Eqm.trans ((kM jK _ _).trans (Eqm.of (vW _ _ _))) (Eqm.add ?_ ?_))
  ·exact ((kM jK F _).trans (lin_dot F f)).symm
  ·exact ((kM jK F _).trans (lin_dot F g)).symm
end
section
theorem tmod_mP (n:Int):((n.tmod 10007) + 10007).tmod 10007 = mP n:=by
 have h1:n.tmod 10007 = if 0 ≤ n then n % 10007 else -((-n) % 10007):=by
  split
  ·rename_i h;exact Int.tmod_eq_emod_of_nonneg h
  ·rename_i h
   have:=Int.neg_tmod (-n) 10007
   rw [Int.neg_neg] at this
   rw [this,Int.tmod_eq_emod_of_nonneg (by omega)]
 rw [h1]
 unfold mP
 split
 ·rw [Int.tmod_eq_emod_of_nonneg (by omega)];omega
 ·rw [Int.tmod_eq_emod_of_nonneg (by omega)];omega
theorem tmod_bd (n:Int):-10007 < n.tmod 10007∧n.tmod 10007 < 10007:=by
 have h1:n.tmod 10007 = if 0 ≤ n then n % 10007 else -((-n) % 10007):=by
  split
  ·rename_i h;exact Int.tmod_eq_emod_of_nonneg h
  ·rename_i h
   have:=Int.neg_tmod (-n) 10007
   rw [Int.neg_neg] at this
   rw [this,Int.tmod_eq_emod_of_nonneg (by omega)]
 rw [h1];split <;> omega
theorem z10007:((10007:Int) = 0) = False:=eq_false (by decide)
theorem a_num (n:Int):AFn Tryz.prog 92 [eI n] (· = [.val (.int (mP n))]):=by
 have hb:=tmod_bd n
 have hw:w64 (n.tmod 10007 + 10007) = n.tmod 10007 + 10007:=qG (by omega)
 rw [← tmod_mP n]
 refine AFn.of_runs (qQ 7) Tryz.func92 rfl rfl rfl gz ?_
 have hres:Tryz.f92.results.toList = [.tmp 2]:=rfl
 have hrts:Tryz.f92.resultTypes.toList = [2]:=rfl
 simp only [qV,qU,eL,eI,eLL,eB,Nat.zero_add,Nat.reduceAdd]
 intro M
 refine qJ.of ?_
 refine gw32 hw ?_
 exact gw2
theorem a_l01Mod (n:Int):AFn Tryz.prog 99 [eI n] (· = [.val (.int (mP n))]):=by
 have hb:=tmod_bd n
 have hw:w64 (n.tmod 10007 + 10007) = n.tmod 10007 + 10007:=qG (by omega)
 rw [← tmod_mP n]
 refine AFn.of_runs (qQ 7) Tryz.func99 rfl rfl rfl gz ?_
 have hres:Tryz.f99.results.toList = [.tmp 2]:=rfl
 have hrts:Tryz.f99.resultTypes.toList = [2]:=rfl
 simp only [qV,qU,eL,eI,eLL,eB,Nat.zero_add,Nat.reduceAdd]
 intro M
 refine qJ.of ?_
 refine gw32 hw ?_
 exact gw2
noncomputable def TMod:Tab Tryz.prog:=Tab.none.add 99 (tab1 codI fun n => some [.val (.int (mP n))]) (yJ fun n rs h => by cases h;exact a_l01Mod n)
theorem a_l01Add (a b:Int) (h:-9223372036854775808 ≤ a + b∧a + b ≤ 9223372036854775807):AFn Tryz.prog 162 [eI a,eI b] (· = [.val (.int (mP (a + b)))]):=by
 have hw:=qG h
 refine AFn.of_runs (qQ 9) Tryz.func162 rfl rfl rfl gz ?_
 have hres:Tryz.f162.results.toList = [.tmp 4]:=rfl
 have hrts:Tryz.f162.resultTypes.toList = [2]:=rfl
 simp only [qV,qU,eL,eI,eLL,eB,Nat.zero_add,Nat.reduceAdd]
 intro M
 refine qJ.of ?_
 refine gw33 hw ?_
 exact gw2
theorem vJ (a b:Int) (h:-9223372036854775808 ≤ a * b∧a * b ≤ 9223372036854775807):AFn Tryz.prog 98 [eI a,eI b] (· = [.val (.int (mP (a * b)))]):=by
 have hw:=qG h
 refine AFn.of_runs (qQ 9) Tryz.func98 rfl rfl rfl gz ?_
 have hres:Tryz.f98.results.toList = [.tmp 4]:=rfl
 have hrts:Tryz.f98.resultTypes.toList = [2]:=rfl
 simp only [qV,qU,eL,eI,eLL,eB,Nat.zero_add,Nat.reduceAdd]
 intro M
 refine qJ.of ?_
 refine gw33 hw ?_
 exact gw2
end
section
theorem a_l01Own2 (f:List (List Int)) (hl:f.length ≤ 1000) (hs:∀ b ∈ f,b.length ≤ 1000):AFn Tryz.prog 67 [eLL f] (· = [.own 1 (f.map eL) false]):=by
 refine AFn.of_runs (qQ 21) Tryz.func67 rfl rfl rfl gz ?_
 have hres:Tryz.f67.results.toList = [.tmp 2]:=rfl
 have hrts:Tryz.f67.resultTypes.toList = [36]:=rfl
 simp only [qV,qU,eL,eI,eLL,eB,Nat.zero_add,Nat.reduceAdd]
 intro M
 refine qJ.of ?_
 refine gw34 ?_
 refine qJ.loop (β:=Nat) (γ:=Unit) (fun i => ⟨[(0,.c (.val (.sl 1 (f.map eL)))),(3,.c (.own 3 (f.take i).length)),(4,.c (.val (.int i)))],[(3,.row 1 ((f.take i).map eL) false)]⟩) (fun i => i ≤ f.length) (fun i => f.length - i)
  (fun _ => ⟨[(3,.c (.own 3 f.length))],[(3,.row 1 (f.map eL) false)]⟩) (fun _ => True) 0 (Nat.zero_le _) ?_ ?_ ?_
 ·exact gw35
 ·intro i hi
  have hi:i ≤ f.length:=hi
  have hw:=jW (n:=i) (by omega)
  by_cases h:i < f.length
  ·have i1:((i:Int) < (f.length:Int)) = True:=eq_true (by omega)
   have i2:((0:Int) ≤ (i:Int)) = True:=eq_true (by omega)
   obtain ⟨t,ht⟩:∃ t,t = f[i]:=⟨_,rfl⟩
   have hg:(f.map eL)[i]? = some [.sl 1 (t.map eI)]:=by rw [qN h,ht];rfl
   have htl:t.length ≤ 1000:=hs t (by rw [ht];exact List.getElem_mem h)
   have how:=a_l01Own t (by omega)
   simp only [eL] at how
   have htk:f.take (i + 1) = f.take i ++ [t]:=by rw [ht];exact List.take_succ_eq_append_getElem h
   have hil:(f.take i).length = i:=by rw [List.length_take];omega
   have q1:=jI (n:=(f.take i).length + 1) (by omega)
   have q2:=jH (n:=(f.take i).length + 1) (c:=24) (by omega) (by omega)
   refine gw36 (Y6 i1 i2 hg hw q1 q2) ?_
   refine qW.on (i + 1) ⟨h,by omega⟩ ?_
   rw [htk]
   exact gw37
  ·have i1:((i:Int) < (f.length:Int)) = False:=eq_false (by omega)
   obtain rfl:i = f.length:=by omega
   rw [List.take_length]
   refine gw38 i1 ?_
   refine qW.out () trivial ?_
   exact gw7 Y0
 ·rintro _ _
  refine gw39 ?_
  exact gw2
end
section
theorem Row.take {w:World} {k n m cap:Nat} {ds:List Value} {og:Option Nat} (h:Row w (slv og n cap) k n ds og) (hm:m ≤ n):Row w (slv og m cap) k m (ds.take (m * k)) og:=by
 refine ⟨by rw [List.length_take,h.1];exact Nat.min_eq_left (Nat.mul_le_mul_right k hm),?_⟩
 rcases h.2 with ⟨h1,h2,h3⟩|⟨g,c,cur,e,h1,h2,h3,h4,h5,h6,h7⟩
 ·subst h3
  exact .inl ⟨rfl,by omega,rfl⟩
 ·subst h2
  have hc:cap = c:=by
   unfold slv at h1
   simp only [Value.slice.injEq] at h1
   exact h1.2.2
  subst hc
  refine .inr ⟨g,cap,cur,e,rfl,rfl,h3,by omega,h5,h6,?_⟩
  rw [← h7,List.take_take,Nat.min_eq_left (Nat.mul_le_mul_right k hm)]
section
variable {P:Program} {cfg:Cfg} {M:Nat→Prop} {w0:W0} {w w':World} {Ok:Nat→Prop} {N:Nat} {σ:Asg} {s:St} {a:Act} {ops:Array Oper}
theorem Sim.trunc (h:Sim w0 Ok N σ s a w) {key k n:Nat} {xs:List (List D)} {d:Bool} (hk:look key s.heap = some (.row k xs d)) (hn:n ≤ xs.length) (hnr:∀ q u,q ≠ key→look q s.heap = some u→key ∉ u.refs) :
  Sim w0 Ok N σ ⟨killR key s.regs,insR key (.row k (xs.take n) false) s.heap⟩ a w:=by
 have hro:=h.rows key _ hk
 obtain ⟨ds,hrow,hkp,hrd⟩:=RowOK.rd h.ok1 h.rows h.disj hk
 have hlen:(xs.take n).length = n:=by rw [List.length_take];omega
 have hfp0:∀ b ∈ fp σ key (.row k (xs.take n) false),b ∈ fp σ key (.row k xs d):=by
  intro b hb
  have hb:b ∈ (σ.g key).toList ++ []:=hb
  rw [List.append_nil] at hb
  exact List.mem_append_left _ hb
 have hl:∀ q o',look q (insR key (.row k (xs.take n) false) s.heap) = some o'→(q = key∧o' = .row k (xs.take n) false) ∨ (q ≠ key∧look q s.heap = some o'):=by
  intro q o' ho'
  rw [jT] at ho'
  split at ho'
  ·rename_i e;cases ho';exact .inl ⟨e.symm,rfl⟩
  ·rename_i e;exact .inr ⟨fun e' => e e'.symm,ho'⟩
 have hZ:qO σ σ s.heap (insR key (.row k (xs.take n) false) s.heap) w w:=fun b hb => ⟨⟨hb.1,hb.2.1,fun q o' ho' => by
  rcases hl q o' ho' with ⟨rfl,_⟩|⟨_,ho⟩
  ·exact hb.2.2 q _ hk
  ·exact hb.2.2 q _ ho⟩,rfl⟩
 have hst:∀ q,q ≠ key→jZ σ σ s.heap (insR key (.row k (xs.take n) false) s.heap) q:=fun q hq o' ho' => by
  rcases hl q o' ho' with ⟨e,_⟩|⟨_,ho⟩
  ·exact absurd e hq
  ·exact ⟨o',ho,rfl,rfl,rfl,rfl⟩
 refine (h.killed key).step rfl h.below hZ (fun r av hr => ⟨av,hr,.inl ⟨rfl,fun q hq => hst q ?_⟩⟩) (fun q o' ho' => ?_) (fun p o1 q u hp hq hpq b hb hb' => ?_)
 ·have hr':look r (killR key s.regs) = some av:=hr
  rw [vU] at hr'
  obtain ⟨v,_,rfl⟩:=map_some hr'
  exact (AV.kill_refs hq).1
 ·rcases hl q o' ho' with ⟨rfl,rfl⟩|⟨hq,ho⟩
  ·refine ⟨⟨ds.take (n * k),?_,hkp,?_⟩,fun b hb => hro.fresh b (hfp0 b hb),?_⟩
   ·show Row w (slv (σ.g q) (xs.take n).length (σ.cap q)) k (xs.take n).length _ (σ.g q)
    rw [hlen]
    exact Row.take hrow hn
   ·show rdR k _ w _ (xs.take n)
    exact (hrd.take n hn).mono (fun b hb _ => (hZ b hb).1)
   ·show ((σ.g q).toList ++ []).Nodup
    rw [List.append_nil]
    cases σ.g q <;> simp
  ·exact RowOK.keep h.ok1 h.rows h.disj ho hZ (fun q' hq' => hst q' (fun e => hnr q o' hq ho (e ▸ hq'))) rfl rfl rfl (fun _ _ => rfl)
 ·have hp2:∃ o2,look p s.heap = some o2∧b ∈ fp σ p o2:=by
   rcases hl p o1 hp with ⟨rfl,rfl⟩|⟨_,ho⟩
   ·exact ⟨_,hk,hfp0 b hb⟩
   ·exact ⟨_,ho,hb⟩
  have hq2:∃ o2,look q s.heap = some o2∧b ∈ fp σ q o2:=by
   rcases hl q u hq with ⟨rfl,rfl⟩|⟨_,ho⟩
   ·exact ⟨_,hk,hfp0 b hb'⟩
   ·exact ⟨_,ho,hb'⟩
  obtain ⟨o2,ho2,hb2⟩:=hp2
  obtain ⟨u2,hu2,hb3⟩:=hq2
  exact h.disj p o2 q u2 ho2 hu2 hpq b hb2 hb3
theorem cellD_un {z d:D} {k:Nat} {xs:List (List D)} (h:d.un = .sl k xs):cellD z (.val d) = some (d,false):=by
 cases d with
 | sl => rfl
 | tag => rfl
 | int => cases h
 | bool => cases h
 | raw => cases h
theorem qJ.regCut (C:CfgOK P cfg) (T:Tab P) {fs:List Fr} {Q:Exit→St→Prop} {id:Nat} (n:Nat) {s1:St} (ha:Work (aopsT cfg T ops (ops.toList.take n) s) (some s1))
  (h:qZ P cfg M ops (ops.toList.drop n) (outK P cfg M fs Q .normal) s1):qJ P cfg M (.region id ops false) fs Q s:=by
 refine qT.region ?_
 have e:ops.toList = ops.toList.take n ++ ops.toList.drop n:=(List.take_append_drop n _).symm
 have cut:∀ (l m:List Oper) (s:St),aopsT cfg T ops l s = some s1→qZ P cfg M ops m (outK P cfg M fs Q .normal) s1→qZ P cfg M ops (l ++ m) (outK P cfg M fs Q .normal) s:=by
  intro l
  induction l with
  | nil => intro m s h1 h2;simp only [aopsT,Option.some.injEq] at h1;subst h1;exact h2
  | cons o l ih =>
   intro m s h1 h2
   simp only [aopsT] at h1
   obtain ⟨s2,h3,h4⟩:=bind_some h1
   exact qZ.stepT C h3 (ih m s2 h4 h2)
 rw [e]
 exact cut _ _ s ha h
theorem qZ.trunc (C:CfgOK P cfg) {o:Oper} {l:List Oper} {Q:St→Prop} {x hi:Operand} {t:TypeId} {i:TyI} {d key m n k:Nat} {xs:List (List D)} {dd:Bool} (ho:o.op = .slice t x none (some hi) none) (hg:o.guard = none) (hd:o.dst = some d) (hdN:d < cfg.N)
  (ht:cfg.sl t = some i) (hx:opv s.regs x = some (.c (.own key m))) (hh:(opv s.regs hi).bind avI = some (n:Int)) (hk:look key s.heap = some (.row k xs dd)) (hle:n ≤ xs.length) (hnr:∀ q u,q ≠ key→look q s.heap = some u→key ∉ u.refs)
  (h:qZ P cfg M ops l Q ⟨insR d (.c (.own key n)) (killR key s.regs),insR key (.row k (xs.take n) false) s.heap⟩):qZ P cfg M ops (o :: l) Q s:=by
 intro w0 Ok σ a w Q' hM hS hQ
 refine wpList_step (fun K hK => ?_)
 have hw:qL ops s.regs o = some true:=by unfold qL;rw [hg]
 rw [xZ hS hw]
 simp only [if_true]
 obtain ⟨z,T,_⟩:=C.sl t i ht
 obtain ⟨ti,hti,_,hsz,_⟩:=T.hi
 have hxr:=(qF hS hx).2 _ hk
 obtain ⟨e1,e2⟩:=hxr
 have e1:m = xs.length:=e1
 obtain ⟨hv,h3,h4⟩:=bind_some hh
 have hhi:a.eval hi = .int .i64 n:=(jQ.1 (show rdV (Zn σ s.heap w) w (a.eval hi) (.int n) by
  have hr:=qF hS h3
  unfold avI at h4
  split at h4
  ·cases h4;exact hr.2
  ·cases h4)).1
 have hro:=hS.rows key _ hk
 obtain ⟨ds,hrow,_⟩:=hro.row
 have hrow:Row w (slv (σ.g key) xs.length (σ.cap key)) k xs.length ds (σ.g key):=hrow
 obtain ⟨oa,c,ev,k1,k2,k3,k4⟩:=kK hrow
 have hxe:a.eval x = .slice oa m c:=by rw [e2,e1];exact ev
 have hrun:(execOp a.eval o).run P w = .ok (.value (slv (σ.g key) n (σ.cap key))) w:=by
  unfold execOp
  rw [ho]
  have:=run_sliceSl (P:=P) T.ht ⟨ti,hti,hsz⟩ (oa:=oa) (m:=m) (c:=c) (lo:=none) (hi:=some (n:Int)) (by simp) (by simp) (by simp;omega) (by rw [e1];exact k1) w
  simp only [Option.getD_none,Option.getD_some,Option.map_none,Option.map_some] at this
  rw [show (0:Int).toNat = 0 from rfl,Int.toNat_natCast,Nat.sub_zero,Nat.sub_zero,Nat.zero_mul] at this
  have hval:(Value.slice (if c = 0 then oa else oa.map (·.add 0)) n c) = slv (σ.g key) n (σ.cap key):=by
   cases hgk:σ.g key with
   | none =>
    rw [hgk] at k4 hrow
    have h0:=hrow.len0
    have hoa:oa = none:=k4
    have hc0:=k3 hoa
    subst hoa
    have:n = 0:=by omega
    subst this;subst hc0
    rfl
   | some b =>
    rw [hgk] at k4 ev
    have hoa:oa = some ⟨b,0,none⟩:=k4
    unfold slv at ev
    simp only [Value.slice.injEq] at ev
    rw [hoa,← ev.2.2]
    simp [slv,Addr.add]
  rw [← hval]
  simp only [hxe,hhi,Option.map_none,Option.map_some]
  simp [this]
 unfold Oper.wp
 rw [hrun]
 show K (a.put o.dst _) _
 rw [hd]
 have hS2:=hS.trunc hk hle hnr
 refine hK _ _ (h w0 Ok σ _ _ Q' hM (Sim.ins hS2 hdN ⟨by cases σ.g key <;> rfl,fun o' ho' => ?_⟩) hQ)
 rw [jT,if_pos rfl] at ho'
 cases ho'
 have hlen:(xs.take n).length = n:=by rw [List.length_take];omega
 exact ⟨hlen.symm,rfl⟩
theorem qZ.clear (C:CfgOK P cfg) {o:Oper} {l:List Oper} {Q:St→Prop} {x:Operand} {t:TypeId} {i:TyI} {key j m k:Nat} {xs:List (List D)} {dd:Bool} (ho:o.op = .call ⟨.builtin .clear,#[x],#[t]⟩) (hg:o.guard = none) (hd:o.dst = none)
  (ht:cfg.sl t = some i) (hx:opv s.regs x = some (.c (.view key j m))) (hk:look key s.heap = some (.row k xs dd)) (hki:k = i.z.length) (hle:j + m = xs.length)
  (h:qZ P cfg M ops l Q ⟨s.regs,insR key (.row k (xs.take j ++ List.replicate m i.z) false) s.heap⟩):qZ P cfg M ops (o :: l) Q s:=by
 intro w0 Ok σ a w Q' hM hS hQ
 refine wpList_step (fun K hK => ?_)
 have hw:qL ops s.regs o = some true:=by unfold qL;rw [hg]
 rw [xZ hS hw]
 simp only [if_true]
 obtain ⟨z,T,hz⟩:=C.sl t i ht
 obtain ⟨_,oa,c,ev,v1,v2,v3,v4⟩:=(qF hS hx).2 _ hk
 have hro:=hS.rows key _ hk
 obtain ⟨ds,hrow,hkp,hrd⟩:=RowOK.rd hS.ok1 hS.rows hS.disj hk
 have hlen:(xs.take j ++ List.replicate m i.z).length = xs.length:=by simp;omega
 obtain ⟨W,hrun,hR,hgr⟩:∃ W,(execOp a.eval o).run P w = .ok (.value (.tuple #[])) W∧Row W (slv (σ.g key) xs.length (σ.cap key)) k xs.length (ds.take (j * k) ++ (List.replicate m (i.z.map zval)).flatten) (σ.g key)∧w.grownBy W (σ.g key):=by
  rcases v4 with rfl|⟨b,hgb,rfl⟩
  ·refine ⟨w,?_,?_,World.grownBy.refl _ _⟩
   ·unfold execOp
    rw [ho]
    cases oa <;> simp [resolve,invoke,builtin,ev,Builtin.clear_,run_underlying T.ht]
   ·have:ds.take (j * k) = ds:=List.take_of_length_le (by rw [hrow.1];simp at hle;rw [hle];exact Nat.le_refl _)
    rw [this];simpa using hrow
  ·rw [hgb] at hrow ⊢
   have ev:a.eval x = .slice (some ⟨b,j * k,none⟩) m c:=ev
   obtain ⟨cs,hcs⟩:∃ cs,cs = (Builtin.zeroCells z.cells m).toList:=⟨_,rfl⟩
   have hcs2:cs = (List.replicate m (i.z.map zval)).flatten:=by
    rw [hcs,← yK0 hz T.hk m]
    have hs:z.cells.size = i.z.length:=by rw [← Array.length_toList,hz.1,List.length_map]
    unfold Builtin.zeroCells madeCells
    rw [hs]
   have hcl:cs.length = m * k:=by rw [hcs2,hki];simp
   have hone:∀ v ∈ cs,v.oneCell' = true:=by
    intro v hv
    rw [hcs2] at hv
    have:=(rep_own hz.2 T.hk w m).rd.one
    exact this v hv
   have hoff:j * k + cs.length ≤ ds.length:=by rw [hrow.1,hcl,← Nat.add_mul,hle];exact Nat.le_refl _
   obtain ⟨r1,r2⟩:=Row.storeCells cs (j * k) hrow hoff
   refine ⟨w.setCells b (j * k) cs,?_,?_,r2⟩
   ·have hst:=run_storeCells_cells (P:=P) b (j * k) cs 0 w (fun q hq => by
     rw [Nat.add_zero]
     have hlt:j * k + q < ds.length:=by omega
     rw [hrow.cells (j * k + q) ds[j * k + q] (List.getElem?_eq_getElem hlt)];rfl) (fun q hq => hrow.frozen _) hone
    rw [Nat.add_zero] at hst
    unfold execOp
    rw [ho]
    cases m with
    | zero =>
     have:cs = []:=by rw [hcs2];rfl
     subst this
     simp [resolve,invoke,builtin,ev,Builtin.clear_,run_underlying T.ht]
     rfl
    | succ m =>
     obtain ⟨ti,hti,hzz,hsz,_⟩:=T.hi
     simp [resolve,invoke,builtin,ev,Builtin.clear_,run_underlying T.ht,zeroValue,typeInfo,hti,hzz,← hcs,hst]
   ·rw [hcs2] at r1 ⊢
    have e:qD ds (j * k) ((List.replicate m (i.z.map zval)).flatten) = ds.take (j * k) ++ (List.replicate m (i.z.map zval)).flatten:=by
     unfold qD
     rw [List.drop_of_length_le (by rw [hrow.1,← hcs2,hcl,← Nat.add_mul,hle];exact Nat.le_refl _),List.append_nil]
    rw [e] at r1
    exact r1
 unfold Oper.wp
 rw [hrun]
 show K (a.put o.dst _) _
 rw [hd]
 have hl:∀ q o',look q (insR key (.row k (xs.take j ++ List.replicate m i.z) false) s.heap) = some o'→(q = key∧o' = .row k (xs.take j ++ List.replicate m i.z) false) ∨ (q ≠ key∧look q s.heap = some o'):=by
  intro q o' ho'
  rw [jT] at ho'
  split at ho'
  ·rename_i e;cases ho';exact .inl ⟨e.symm,rfl⟩
  ·rename_i e;exact .inr ⟨fun e' => e e'.symm,ho'⟩
 have hblk:∀ b,b < w.heap.size→σ.g key ≠ some b→W.heap[b]? = w.heap[b]?:=fun b hb hne => hgr.block b hb (fun e => hne e.symm)
 have hZ:qO σ σ s.heap (insR key (.row k (xs.take j ++ List.replicate m i.z) false) s.heap) w W:=fun b hb => ⟨⟨Nat.lt_of_lt_of_le hb.1 hgr.size,hb.2.1,fun q o' ho' => by
  rcases hl q o' ho' with ⟨rfl,_⟩|⟨_,ho⟩
  ·exact hb.2.2 q _ hk
  ·exact hb.2.2 q _ ho⟩,hblk b hb.1 (hb.2.2 key _ hk)⟩
 have hst:∀ q,jZ σ σ s.heap (insR key (.row k (xs.take j ++ List.replicate m i.z) false) s.heap) q:=fun q o' ho' => by
  rcases hl q o' ho' with ⟨rfl,rfl⟩|⟨_,ho⟩
  ·exact ⟨_,hk,rfl,hlen.symm,rfl,rfl⟩
  ·exact ⟨o',ho,rfl,rfl,rfl,rfl⟩
 have hfp0:∀ b ∈ fp σ key (.row k (xs.take j ++ List.replicate m i.z) false),b ∈ fp σ key (.row k xs dd):=by
  intro b hb
  have hb:b ∈ (σ.g key).toList ++ []:=hb
  rw [List.append_nil] at hb
  exact List.mem_append_left _ hb
 refine hK _ _ (h w0 Ok σ _ _ Q' hM ?_ hQ)
 refine hS.step rfl (hS.below.grown hgr (fun b hb => hro.fresh b (qC hb))) hZ (fun r av hr => ⟨av,hr,.inl ⟨rfl,fun q _ => hst q⟩⟩) (fun q o' ho' => ?_) (fun p o1 q u hp hq hpq b hb hb' => ?_)
 ·rcases hl q o' ho' with ⟨rfl,rfl⟩|⟨hq,ho⟩
  ·refine ⟨⟨ds.take (j * k) ++ (List.replicate m (i.z.map zval)).flatten,?_,hkp,?_⟩,fun b hb => hro.fresh b (hfp0 b hb),?_⟩
   ·show Row W (slv (σ.g q) (xs.take j ++ List.replicate m i.z).length (σ.cap q)) k (xs.take j ++ List.replicate m i.z).length _ (σ.g q)
    rw [hlen];exact hR
   ·show rdR k _ W _ (xs.take j ++ List.replicate m i.z)
    refine rdR.append (((hrd.take j (by omega)).step hZ)) ?_
    have:=(rep_own hz.2 T.hk W m).rd
    rw [← hki] at this
    exact this.mono (fun b hb _ => by cases hb)
   ·show ((σ.g q).toList ++ []).Nodup
    rw [List.append_nil]
    cases σ.g q <;> simp
  ·refine RowOK.keep hS.ok1 hS.rows hS.disj ho hZ (fun q' _ => hst q') rfl rfl rfl (fun b hb => hblk b (yG hS ho b (qC hb)) (fun e => ?_))
   exact hS.disj key _ q o' hk ho (fun e => hq e.symm) b (qC e) (qC hb)
 ·have hp2:∃ o2,look p s.heap = some o2∧b ∈ fp σ p o2:=by
   rcases hl p o1 hp with ⟨rfl,rfl⟩|⟨_,ho⟩
   ·exact ⟨_,hk,hfp0 b hb⟩
   ·exact ⟨_,ho,hb⟩
  have hq2:∃ o2,look q s.heap = some o2∧b ∈ fp σ q o2:=by
   rcases hl q u hq with ⟨rfl,rfl⟩|⟨_,ho⟩
   ·exact ⟨_,hk,hfp0 b hb'⟩
   ·exact ⟨_,ho,hb'⟩
  obtain ⟨o2,ho2,hb2⟩:=hp2
  obtain ⟨u2,hu2,hb3⟩:=hq2
  exact hS.disj p o2 q u2 ho2 hu2 hpq b hb2 hb3
end
end
section
section
variable {P:Program} {cfg:Cfg} {w0:W0} {w w':World} {Ok:Nat→Prop} {N:Nat} {σ σ':Asg} {s s':St} {a:Act} {M:Nat→Prop}
theorem qE.split {A:Nat→Prop}:∀ {pre:List (List D)} {ds:List (List D)} {vs:List Value},qE A w (pre ++ ds) vs→∃ vs1 vs2,vs = vs1 ++ vs2∧qE A w pre vs1∧qE A w ds vs2
 | [],ds,vs,h => ⟨[],vs,rfl,rfl,h⟩
 | d :: pre,ds,vs,⟨v,us,e,h1,h2⟩ => by
  obtain ⟨us1,us2,e2,h3,h4⟩:=qE.split h2
  subst e2;subst e
  exact ⟨v :: us1,us2,rfl,⟨v,us1,rfl,h1,h3⟩,h4⟩
theorem qE.join {A:Nat→Prop}:∀ {pre:List (List D)} {ds:List (List D)} {vs1 vs2:List Value},qE A w pre vs1→qE A w ds vs2→qE A w (pre ++ ds) (vs1 ++ vs2)
 | [],ds,vs1,vs2,h,k => by rw [show vs1 = [] from h];exact k
 | d :: pre,ds,vs1,vs2,⟨v,us,e,h1,h2⟩,k => by
  subst e
  exact ⟨v,us ++ vs2,rfl,h1,qE.join h2 k⟩
theorem Bel.nil (h:Bel ⟨w,fun b => (none:Option Nat) = some b⟩ w'):Below w.heap.size w w' :=
 ⟨h.os,h.tape,h.output,h.size,fun i hi => h.block i hi (fun e => nomatch e)⟩
theorem AOw.nil {g:FuncId} {pre post:List (List D)} {k:Nat} {Q:List Res→Prop} (h:AOw P g pre k [] post Q) (hk:0 < k):AFn P g (pre ++ [.raw (.slice none 0 0)] :: post) Q:=by
 refine ⟨h.call,fun A w vs hA hr => ?_⟩
 obtain ⟨vs1,vs2,e,h1,v,us,e2,h2,h3⟩:=qE.split hr
 subst e2;subst e
 obtain ⟨rfl,_⟩:=yK.1 (show rdV A w v (.raw (.slice none 0 0)) from h2)
 refine (h.fn A w vs1 us none 0 [] hA h1 h3 ⟨(Nat.zero_mul k).symm,.inl ⟨rfl,rfl,rfl⟩⟩ hk (by first|exact ⟨0,hk,rfl⟩|exact ⟨0,hk,trivial⟩|exact ⟨0,hk,by simp [rdL]⟩) (fun b e => nomatch e)).mono ?_
 rintro e w' ⟨v,rs,rfl,hQ,hb,ho⟩
 have e:(W0.mine ⟨w,fun b => (none:Option Nat) = some b⟩) = fun b => w.heap.size ≤ b:=by funext b;simp [W0.mine]
 rw [e] at ho
 exact ⟨v,rs,rfl,hQ,hb.nil,ho⟩
theorem n_callR (C:CfgOK P cfg) (h:Sim w0 Ok N σ s a w) {o:Oper} {f:Operand} {args:Array Operand} {ts:Array TypeId} {g:FuncId} (ho:o.op = .call ⟨.value f,args,ts⟩) (hf:((opv s.regs f).bind avD).bind fnId = some g)
  {ds:List (List D)} (hd:qE (Zn σ s.heap w) w ds (args.toList.map a.eval)) {Q0:List Res→Prop} (hfn:AFn P g ds Q0)
  {K:Act→World→Prop} {Q:Exit→Act→World→Prop} {key:Nat} (hfr:∀ rs,Q0 rs→∀ q ob,look q (qY key rs).2 = some ob→Free s q)
  (hK:∀ rs,Q0 rs→∀ v w' σ',relAV σ' ((qY key rs).2 ++ s.heap) w' (outAV (qY key rs).1) v→Sim w0 Ok N σ' ⟨s.regs,(qY key rs).2 ++ s.heap⟩ a w'→K (a.put o.dst v) w'):o.wp P a w K Q:=by
 have hfv:a.eval f = .func (.func g) #[] #[]:=vO h hf
 have hrun:(execOp a.eval o).run P w = .ok (.enter g (args.map a.eval)) w:=by
  unfold execOp
  rw [ho]
  simp [resolve,Deferred.ofValue,hfv,invoke,hfn.call]
 obtain ⟨A,hA,hAa,hAz⟩:∃ A:Nat→Prop,(∀ b,A b→b < w.heap.size)∧qE A w ds (args.toList.map a.eval)∧((∃ rs,Q0 rs∧rs.all Res.scalar = false)→∀ b,A b→Zn σ s.heap w b):=by
  exact ⟨Zn σ s.heap w,fun _ h => h.1,hd,fun _ b hb => hb⟩
 have hcall:=hfn.fn A w (args.toList.map a.eval) hA hAa
 unfold Oper.wp
 rw [hrun,Oper.upon_enter]
 have e:(args.toList.map a.eval).toArray = args.map a.eval:=by rw [← Array.toList_map,Array.toArray_toList]
 rw [← e]
 refine hcall.mono ?_
 rintro e w' ⟨v,rs,rfl,hQ,hw,us,G,X,rfl,hG1,hG2,hrel⟩
 obtain ⟨σ',k0,k1,k2,k3,k4⟩:=wQ key σ hrel hG1
 have hgn:∀ q u,look q (qY key rs).2 = some u→∀ b,σ'.g q = some b→w.heap.size ≤ b:=fun q u hq b hb => hG2 b ((k2 q u hq).2.2.1 b (qC hb))
 have hZ1:(∀ b,A b→Zn σ s.heap w b)→∀ b,((A b ∨ w.heap.size ≤ b)∧b ∉ X)→b < w'.heap.size→Zn σ' ((qY key rs).2 ++ s.heap) w' b:=by
  intro hAz b hb hlt
  have hz:=qO.grown hw h hAz b hb.1 hlt
  refine ⟨hlt,by rw [k0];exact hz.2.1,fun q u hq e => ?_⟩
  rw [jR] at hq
  cases hn:look q (qY key rs).2 with
  | some o' => exact hb.2 ((k2 q o' hn).2.2.2 b e)
  | none =>
   rw [hn] at hq
   rw [(k1 q hn).1] at e
   exact hz.2.2 q u hq e
 refine hK rs hQ _ w' σ' (out_rel ?_) ?_
 ·by_cases hsc:rs.all Res.scalar = true
  ·exact k4.relS hsc
  ·exact k4.rel (hZ1 (hAz ⟨rs,hQ,by simpa using hsc⟩))
 ·refine h.news k0 hw (hfr rs hQ) k1 (fun q o' hq => ?_) (fun q o' hq => ?_) k3
  ·obtain ⟨⟨dd,k,xs,d,b1,b2,b3,b4⟩,_⟩:=k2 q o' hq
   subst b1
   refine ⟨dd,b2,b3,?_⟩
   show if d = true then ownR k w' dd xs (σ'.F q) else rdR k (Zn σ' ((qY key rs).2 ++ s.heap) w') w' dd xs
   cases d with
   | true => rw [if_pos rfl];exact b4
   | false =>
    rw [if_neg (by decide)]
    have b4':rdR k (fun b => (A b ∨ w.heap.size ≤ b)∧b ∉ X) w' dd xs:=b4
    have hsc:rs.all Res.scalar = false:=by
     have key:∀ {rs:List Res} {key:Nat} {q:Nat},look q (qY key rs).2 = some (.row k xs false)→rs.all Res.scalar = false:=by
      intro rs
      induction rs with
      | nil => intro key q hq;cases hq
      | cons r rs ih =>
       intro key q hq
       cases r with
       | val d => rw [List.all_cons,ih (by simpa [qY,resAC] using hq),Bool.and_false]
       | own kk ys d =>
        simp only [qY,resAC,List.singleton_append,look] at hq
        split at hq
        ·cases hq;rfl
        ·rw [List.all_cons,ih hq,Bool.and_false]
     exact key hq
    exact b4'.mono (fun b hb hlt => hZ1 (hAz ⟨rs,hQ,hsc⟩) b hb hlt)
  ·obtain ⟨_,b5,b6,_⟩:=k2 q o' hq
   exact ⟨fun b hb => hG2 b (b6 b hb),b5⟩
theorem qZ.callNilP (C:CfgOK P cfg) {ops:Array Oper} {o:Oper} {l:List Oper} {Q:St→Prop} {d:Nat} {f:Operand} {args:Array Operand} {ts:Array TypeId} {g:FuncId} (hb:qL ops s.regs o = some true) (hdN:d < cfg.N)
  (ho:o.op = .call ⟨.value f,args,ts⟩) (hod:o.dst = some d) (hf:((opv s.regs f).bind avD).bind fnId = some g)
  {xs:List Operand} {tx:List TypeId} {pre:List (List D)} {ys:List Operand} {ty:List TypeId} {post:List (List D)} (ha:args.toList = xs ++ .const (.slice none 0 0) :: ys) (hpre:aargs cfg (fun k => look k s.heap) s.regs xs tx = some pre) (hr:qI s.regs xs = []) (hpost:aargs cfg (fun k => look k s.heap) s.regs ys ty = some post) (hr2:qI s.regs ys = [])
  {rs:List Res} (hfn:AFn P g (pre ++ [.raw (.slice none 0 0)] :: post) (· = rs)) (hfr:(qY d rs).2.all (fun p => fresh s p.1) = true)
  (h:qZ P cfg M ops l Q (s.got d rs)):qZ P cfg M ops (o :: l) Q s:=by
 intro w0 Ok σ a w Q' hM hS hQ
 refine wpList_step (fun K hK => ?_)
 rw [xZ hS hb]
 simp only [if_true]
 have hrel:qE (Zn σ s.heap w) w (pre ++ [.raw (.slice none 0 0)] :: post) (args.toList.map a.eval):=by
  rw [ha,List.map_append]
  exact qE.join ((kQ C hS hpre).2 hr) ⟨_,_,rfl,yK.2 ⟨rfl,rfl⟩,(kQ C hS hpost).2 hr2⟩
 refine n_callR C hS (key:=d) ho hf hrel hfn (fun rs' e => e ▸ fun q ob hq => xB (List.all_eq_true.1 hfr _ (yW hq))) (fun rs' e v w' σ' hv hS' => ?_)
 subst e
 rw [hod]
 have hsub:∀ k o',look k (jP (qY d rs').2 s.heap) = some o'→look k ((qY d rs').2 ++ s.heap) = some o':=fun k o' ho' => by rw [xS] at ho';exact ho'
 exact hK _ _ (h w0 Ok σ' _ _ Q' hM (Sim.ins (hS'.forget (fun _ _ h => h) hsub) hdN (hv.sub hsub)) hQ)
end
noncomputable def atOwn (A:List (List D)) (k:Nat) (X:List (List D)) (B:List (List D)) (R:List Res) (a:List (List D)) (k':Nat) (x:List (List D)) (b:List (List D)):Option (List Res × Option (List (List D))):=by
 classical
 exact if a = A∧k' = k∧x = X∧b = B then some (R,Option.none) else Option.none
theorem atOwn_eq (A:List (List D)) (k:Nat) (X:List (List D)) (B:List (List D)) (R:List Res):atOwn A k X B R A k X B = some (R,Option.none):=by
 unfold atOwn;rw [if_pos ⟨rfl,rfl,rfl,rfl⟩]
theorem atOwn_some {A:List (List D)} {k:Nat} {X:List (List D)} {B:List (List D)} {R:List Res} {a:List (List D)} {k':Nat} {x b:List (List D)} {r:List Res × Option (List (List D))} (h:atOwn A k X B R a k' x b = some r):a = A∧k' = k∧x = X∧b = B∧r = (R,Option.none):=by
 unfold atOwn at h
 split at h
 ·rename_i h1
  exact ⟨h1.1,h1.2.1,h1.2.2.1,h1.2.2.2,(Option.some.inj h).symm⟩
 ·exact nomatch h
noncomputable def Tab.own' {P:Program} (T:Tab P) (g:FuncId) (n:Nat) {A:List (List D)} {k:Nat} {X B:List (List D)} {R:List Res} (h:AOw P g A k X B (· = R)):Tab P :=
 T.own g ⟨false,n,atOwn A k X B R⟩ (fun pre k' xs post r _ e => by
  obtain ⟨rfl,rfl,rfl,rfl,rfl⟩:=atOwn_some e
  exact h.toEf)
end
section
theorem sortC_take_succ' {c:List Int→List Int→Int} {t:List (List Int)} (k:Nat) (h:k < t.length):sortC c (t.take (k + 1)) = ins c t[k] (sortC c (t.take k)):=by
 rw [List.take_succ_eq_append_getElem h,sortC_snoc]
theorem own_step {W:World} {ops:Array Oper} {o:Oper} {a:Act} {K:Act→World→Prop} {Q:Exit→Act→World→Prop} {E:Prop} (hgd:o.guard = none) (args:Array Operand) (ts:Array TypeId)
  (ho:o.op = .call { callee:=.value (.func 133),args:=args,argTypes:=ts }) (v:Value) (x:List Int) (hv:args.map a.eval = #[v]) (wb:World) (hW:W.heap = wb.heap) (hr:Rd (RS RI) wb [v] x) (hxl:x.length ≤ 1000000000)
  (h:∀ ou cu w2,Own (RS RI) wb.heap.size w2.heap.size w2 [.slice ou x.length cu] x→Below wb.heap.size W w2→wb.heap.size ≤ w2.heap.size→K (a.put o.dst (.slice ou x.length cu)) w2) :
  if Region.wanted o (yielded ops a.tmps) = true then Oper.wp Tryz.prog o a W K Q else E:=by
 refine step_call hgd 133 args ts ho (enters (P:=Tryz.prog) (f:=133) Tryz.func133 (by kernel_rfl) rfl) #[v] hv ?_
 refine (yQ0 v x W (hr.of_heap hW) hxl).mono ?_
 rintro e w2 ⟨u,rfl,o2,b2⟩
 obtain ⟨ou,cu,rfl,_⟩:=o2.val
 rw [hW] at o2 b2
 exact ⟨_,rfl,h ou cu w2 o2 b2 (by have:=b2.size;rw [hW] at this;exact this)⟩
theorem c_spec_l03Sort (v:Value) (bs:List (List Int)) (w:World) (h:Rd (RS (RS RI)) w [v] bs) (hsz:bs.length ≤ 1000000) (hsl:∀ b ∈ bs,b.length ≤ 1000000000) :
  Calls Tryz.prog 187 #[v] w (RetO (RS (RS RI)) w (forest bs)):=by
 obtain ⟨oa,cap,L⟩:=h.lists
 obtain rfl:=L.val
 have m1:=L.le;have m2:=L.capLe
 have HL:=Lib.hid L
 have HS:=Lib.hid hsl
 have EGL:=Lib.hid (enters (P:=Tryz.prog) (f:=133) Tryz.func133 (by kernel_rfl) rfl)
 clear L h hsl
 go_enter Tryz.func187,Tryz.ntmps187
 go_wp2_with fail
 go_loopw [3,4] (fun o i wr => ∃ (k:Nat) (ys:List (List Int)),k ≤ bs.length∧i = .int .i64 k∧Hid (ys = sortC cmpT (bs.take k))∧Hid (ys.length = k)∧(∃ g cap,o = .slice (some ⟨g,0,none⟩) ys.length cap)∧Hid (Own (RS (RS RI)) w.heap.size wr.heap.size wr [o] ys)∧Below w.heap.size w wr) (fun _ i _ => bs.length - (intOf i).toNat)
 case atStart => exact ⟨0,[],Nat.zero_le _,rfl,Lib.hid (by simp [sortC]),Lib.hid rfl,⟨_,_,rfl⟩,Lib.hid ((Own.empty (R:=RS RI) (w:=w) 24 w.heap.size (Nat.le_refl _)).top _ (by simp)),(Below.refl _ _).alloc (Nat.le_refl _) _⟩
 case round =>
  obtain ⟨k,ys,hk,rfl,hys,Hyl,⟨g0,cap0,rfl⟩,hown,hbel⟩:=hrel
  have hsz2:=hbel.size
  obtain ⟨wo,hwo⟩:∃ wo:World,wo = wr:=⟨_,rfl⟩
  subst hwo
  by_cases hlt:k < bs.length
  ·obtain ⟨b,off,rfl,hb,hc⟩:=HL.out.get hlt
   obtain ⟨oi,ci,g1,hrd,q1,q2⟩:=hc k hlt
   have g2:wo.cell? ⟨b,off + k,none⟩ = some (.slice oi bs[k].length ci):=(hbel.cell (p:=⟨b,off + k,none⟩) hb).trans g1
   have hst:=sortC_take_succ' (c:=cmpT) k hlt
   rw [← hys.out] at hst
   obtain ⟨x,hx⟩:∃ x,x = bs[k]:=⟨_,rfl⟩
   have hxl:x.length ≤ 1000000000:=by rw [hx];exact HS.out _ (List.getElem_mem hlt)
   rw [← hx] at g2 hrd q1 hst
   have HST:=Lib.hid hst
   have HR:=Lib.hid (hrd.below hbel (Nat.le_refl _))
   have HOO:Hid (∀ (W' w2:World),W'.heap = wo.heap→Below wo.heap.size W' w2→Own (RS (RS RI)) w.heap.size wo.heap.size w2 [.slice (some ⟨g0,0,none⟩) ys.length cap0] ys):=Lib.hid (fun W' w2 e b => (hown.out.of_heap e).below b (Nat.le_refl _))
   have ik1:(0:Int) ≤ (k:Int):=by omega
   have ik2:(k:Int) < (bs.length:Int):=by omega
   clear hst hc g1 hx hrd
   go_wp2_with fail
   go_loopw [5] (fun i wr => ∃ (j:Nat),j ≤ ys.length∧i = .int .i64 j∧Hid (∀ q (h:q < ys.length),q < j→¬ cmpT x ys[q] < 0)∧∃ n,wr = wo.drewN n) (fun i _ => ys.length - (intOf i).toNat)
   case atStart => exact ⟨0,Nat.zero_le _,rfl,Lib.hid (fun q _ h => by omega),0,rfl⟩
   case round =>
    obtain ⟨j,hj,rfl,hall,nd,rfl⟩:=hrel
    have HO3:Hid (Own (RS (RS RI)) w.heap.size wo.heap.size (wo.drewN nd) [.slice (some ⟨g0,0,none⟩) ys.length cap0] ys):=hown.out.of_heap rfl
    have g3:(wo.drewN nd).cell? ⟨b,off + k,none⟩ = some (.slice oi x.length ci):=g2
    have hyb:ys.length ≤ 1000000:=by rw [Hyl.out];omega
    have hle4:=hown.out.val
    obtain ⟨_,_,ev,le4,_⟩:=hle4
    simp only [Value.slice.injEq,true_and] at ev
    obtain ⟨rfl,rfl⟩:=ev
    by_cases hjl:j < ys.length
    ·obtain ⟨g',cap',h0,hv,q1',q2',hg1',hg2',hcell,hel⟩:=HO3.out.elem j hjl
     simp only [Value.slice.injEq,true_and] at hv
     obtain ⟨e1,e2⟩:=hv
     simp only [Option.some.injEq,Addr.mk.injEq,and_true] at e1
     subst e1;subst e2
     obtain ⟨oj,cj,rfl,_⟩:=hel.val
     have hls:∀ a,Calls Tryz.prog 129 #[.slice oi x.length ci,.slice oj ys[j].length cj] (wo.drewN (nd + a)) (RetQ (wo.drewN (nd + a)) (.bool (decide (cmpT x ys[j] < 0)))):=fun a => jB0 _ _ x ys[j] _ (HR.out.of_heap rfl) (hel.rd.of_heap rfl)
     obtain ⟨yl,hyl'⟩:∃ yl,yl = ys[j].length:=⟨_,rfl⟩
     rw [← hyl'] at hls hcell
     replace hcell:wo.cell? ⟨g0,j,none⟩ = some (.slice oj yl cj):=hcell
     have ij1:(0:Int) ≤ (j:Int):=by omega
     have ij2:(j:Int) < (ys.length:Int):=by omega
     have ij3:decide ((j:Int) < (ys.length:Int)) = true:=decide_eq_true ij2
     clear hel hyl'
     by_cases hle:cmpT x ys[j] < 0
     ·have hd:decide (cmpT x ys[j] < 0) = true:=decide_eq_true hle
      rw [hd] at hls
      have HLS:=Lib.hid hls
      have HE:Hid (ins cmpT x ys = ys.take j ++ x :: ys.drop j):=Lib.hid (ins_at hj hall.out (fun _ => hle))
      clear hd hle hls
      go_wp2_with fail
      go_quiet ((go_at_call 129;exact Calls.qQ' (HLS.out _)))
      clear HLS hcell
      have hcj:¬ cap0 = j:=by omega
      go_wp2_with fail
      go_region_law (first
       | (refine own_step rfl _ _ rfl (.slice oi x.length ci) x (by simp [Act.eval]) wo (by rfl) HR.out hxl ?_;intro ou cu w2 o2 b2 hsz5;have HO4:=HOO.out _ _ (by rfl) b2;obtain ⟨d1,d2,t1l,t2l,t1,t2,t3,hcl,hmk⟩:=HO4.insRow (R:=RS RI) rfl hsz5 hsz2 o2 j hj;rw [← HE.out,← HST.out] at hmk;have T1L:=Lib.hid t1l;have T2L:=Lib.hid t2l;have hbel4:Below w.heap.size w w2:=(hbel.trans (Below.drewN _ _ _)).trans (b2.mono hsz2);clear t1l t2l o2 HO4)
       | (refine step_appendS rfl _ _ 36 rfl 24 (.slice none 0 0) 1 24 tI64S (.slice (some ⟨w2.heap.size,0,none⟩) 1 1) 1 [.slice ou x.length cu] (some w2.heap.size) rfl (by simpa using Row.lit w2 #[.slice ou x.length cu] 24 1 1 (by decide) (by simp)) _ _ _ d2 rfl (by have:=T2L.out;omega) (by intro h;cases h) (by intro a ha i u hi;cases ha;rw [Addr.add_lit];exact (hcl (w2.alloc _) ((Below.refl _ _).alloc (Nat.le_refl _) _)).2 i u hi) t2 (by have:=T2L.out;omega) (by have:=T2L.out;unfold maxLen;omega) ?_;intro vA wA ogA happA))
      all_goals
       replace happA:jS (w2.alloc (.cells #[.slice ou x.length cu] 24)) wA vA 1 (1 + d2.length) ([.slice ou x.length cu] ++ d2) (some w2.heap.size) ogA:=by have e:=T2L.out;first|exact happA|(rw [e];simpa using happA)
       obtain ⟨oA,capA,rfl,pA1,pA2⟩:=happA.1.val
       unfold maxLen at pA2
       have lowA:=happA.low (B:=(w2).heap.size) (by simp) (fun g hg => by cases hg;exact Nat.le_refl _)
       have belA:Below (w2).heap.size (w2) wA:=((Below.refl _ _).alloc (Nat.le_refl _) _).trans lowA.2
       have sA:=belA.size
       have HA:=Lib.hid happA.1
       have HogA:=Lib.hid lowA.1
       have CA:=(hcl wA belA).1
       clear happA lowA
       go_wp2_with (at_builtin;refine yA (o:=⟨some 46,_,_,_,_,_⟩) ?_)
       refine jX.go ?_
       refine yR rfl _ _ 36 rfl 24 (.slice none 0 0) 1 24 tI64S (.slice (some ⟨wA.heap.size,0,none⟩) 0 0) 0 [] (some wA.heap.size) rfl (by simpa using Row.lit wA #[] 24 1 0 (by decide) (by simp)) (some ⟨g0,0,none⟩) j _ d1 rfl (by have:=T1L.out;omega) (fun h => by cases h) (by intro a ha i u hi;cases ha;rw [Addr.add_lit,Nat.zero_add];have:=(hcl (wA.alloc (.cells #[] 24)) (belA.alloc sA _)).1 i u hi;exact this) t1 (by have:=T1L.out;omega) (by unfold maxLen;omega) ?_
       intro vB wB ogB happB
       rw [Nat.zero_add,List.nil_append] at happB
       obtain ⟨oB,capB,rfl,pB1,pB2⟩:=happB.1.val
       unfold maxLen at pB2
       have lowB:=happB.low (B:=(w2).heap.size) (Nat.le_trans sA (by simp)) (fun g hg => by cases hg;exact sA)
       have lowB2:=happB.low (B:=wA.heap.size) (by simp) (fun g hg => by cases hg;exact Nat.le_refl _)
       have belB2:Below wA.heap.size wA wB:=((Below.refl _ _).alloc (Nat.le_refl _) _).trans lowB2.2
       have belB:Below (w2).heap.size (w2) wB:=belA.trans (belB2.mono sA)
       have sB:=belB.size
       have hrA:Row wB (.slice oA (1 + d2.length) capA) 1 (1 + d2.length) ([(.slice ou x.length cu)] ++ d2) ogA:=HA.out.frame (fun g hg => belB2.block g (HA.out.lt g hg))
       obtain ⟨gA,hgA⟩:=hrA.some_of (j:=0) (by omega)
       subst hgA
       obtain ⟨oA',cA',eA,_,_,_,eA2⟩:=hrA.value
       simp only [Value.slice.injEq,true_and] at eA
       obtain ⟨rfl,rfl⟩:=eA
       simp only [Option.map_some] at eA2
       subst eA2
       have HRA:=Lib.hid hrA
       have HB:=Lib.hid happB.1
       have HogB:=Lib.hid lowB.1
       clear hrA happB lowB lowB2 CA
       go_wp2_with (at_builtin;refine yA (o:=⟨some 48,_,_,_,_,_⟩) ?_)
       refine jX.go ?_
       refine yR rfl _ _ 36 rfl 24 (.slice none 0 0) 1 24 tI64S (.slice oB j capB) j d1 ogB rfl HB.out (some ⟨gA,0,none⟩) _ _ ([(.slice ou x.length cu)] ++ d2) rfl (by simp <;> omega) (fun h => by cases h) (by intro a ha i u hi;cases ha;rw [Addr.add_lit,Nat.zero_add];exact HRA.out.cells i u hi) (fun u hu => (List.mem_append.1 hu).elim (fun h => by simp at h;subst h;exact t3) (t2 u)) (by have:=T2L.out;omega) (by have:=T2L.out;unfold maxLen;omega) ?_
       intro vC wC ogC happC
       have lowC:=happC.low (B:=(w2).heap.size) sB HogB.out
       have belC:Below (w2).heap.size (w2) wC:=belB.trans lowC.2
       have hrC:=happC.1
       have eN:j + (1 + d2.length) = ys.length + 1:=by have:=T1L.out;have:=T2L.out;omega
       rw [eN,List.singleton_append] at hrC
       have hfin:=hmk wC vC ogC belC hrC lowC.1
       obtain ⟨gC,hgC⟩:=hrC.some_of (j:=0) (by omega)
       subst hgC
       obtain ⟨capC,hvC,_,_⟩:=hrC.slice
       subst hvC
       have HFIN:=Lib.hid hfin
       clear hfin hrC happC lowC HA HB HRA HogA HogB eN
       have hfl:(sortC cmpT (bs.take (k + 1))).length = ys.length + 1:=by rw [vP];simp;rw [Hyl.out];omega
       obtain ⟨zs,hzs⟩:∃ zs,zs = sortC cmpT (bs.take (k + 1)):=⟨_,rfl⟩
       rw [← hzs] at HFIN hfl
       have hkz:zs.length = k + 1:=by rw [hfl,Hyl.out]
       rw [← hfl] at HFIN
       rw [← hfl]
       have HZ:=Lib.hid hzs
       have HKZ:=Lib.hid hkz
       clear hzs hfl hkz
       go_wp2_with fail
       go_roundw
       case rel => exact ⟨k + 1,zs,by omega,by go_num,HZ,HKZ,⟨_,_,rfl⟩,HFIN,hbel4.trans (belC.mono (Nat.le_trans hsz2 hsz5))⟩
       case measure => simp [intOf];omega
     ·have hd:decide (cmpT x ys[j] < 0) = false:=decide_eq_false hle
      rw [hd] at hls
      have HLS:=Lib.hid hls
      have HN:Hid (¬ cmpT x ys[j] < 0):=Lib.hid hle
      clear hd hle hls
      go_wp2_with fail
      go_quiet ((go_at_call 129;exact Calls.qQ' (HLS.out _)))
      go_wp2_with fail
      go_roundw
      case rel =>
       refine ⟨j + 1,by omega,by go_num,Lib.hid (fun q h hq => ?_),(by first|exact yB _ _|exact yD _ _ _|exact drewN3 _ _ _ _)⟩
       by_cases hqj:q = j
       ·subst hqj;have:=HN.out;omega
       ·have:=hall.out q h (by omega);omega
      case measure => simp [intOf];omega
    ·obtain rfl:j = ys.length:=by omega
     have HE:Hid (ins cmpT x ys = ys.take ys.length ++ x :: ys.drop ys.length):=Lib.hid (ins_at hj hall.out (fun h => by omega))
     have ij3:decide ((ys.length:Int) < (ys.length:Int)) = false:=by simp
     go_wp2_with fail
     go_quiet (fail)
     by_cases hcj:cap0 = ys.length
     all_goals
      go_wp2_with fail
      go_region_law (first
       | (refine own_step rfl _ _ rfl (.slice oi x.length ci) x (by simp [Act.eval]) wo (by rfl) HR.out hxl ?_;intro ou cu w2 o2 b2 hsz5;have HO4:=HOO.out _ _ (by rfl) b2;obtain ⟨d1,d2,t1l,t2l,t1,t2,t3,hcl,hmk⟩:=HO4.insRow (R:=RS RI) rfl hsz5 hsz2 o2 ys.length hj;rw [← HE.out,← HST.out] at hmk;have T1L:=Lib.hid t1l;have T2L:=Lib.hid t2l;have hbel4:Below w.heap.size w w2:=(hbel.trans (Below.drewN _ _ _)).trans (b2.mono hsz2);clear t1l t2l o2 HO4)
       | (refine step_appendS rfl _ _ 36 rfl 24 (.slice none 0 0) 1 24 tI64S (.slice (some ⟨w2.heap.size,0,none⟩) 1 1) 1 [.slice ou x.length cu] (some w2.heap.size) rfl (by simpa using Row.lit w2 #[.slice ou x.length cu] 24 1 1 (by decide) (by simp)) _ _ _ d2 rfl (by have:=T2L.out;omega) (by intro h;simp) (by intro a ha i u hi;rw [List.eq_nil_of_length_eq_zero (l:=d2) (by have:=T2L.out;omega)] at hi;simp at hi) t2 (by have:=T2L.out;omega) (by have:=T2L.out;unfold maxLen;omega) ?_;intro vA wA ogA happA))
      all_goals
       replace happA:jS (w2.alloc (.cells #[.slice ou x.length cu] 24)) wA vA 1 (1 + d2.length) ([.slice ou x.length cu] ++ d2) (some w2.heap.size) ogA:=by have e:=T2L.out;first|exact happA|(rw [e];simpa using happA)
       obtain ⟨oA,capA,rfl,pA1,pA2⟩:=happA.1.val
       unfold maxLen at pA2
       have lowA:=happA.low (B:=(w2).heap.size) (by simp) (fun g hg => by cases hg;exact Nat.le_refl _)
       have belA:Below (w2).heap.size (w2) wA:=((Below.refl _ _).alloc (Nat.le_refl _) _).trans lowA.2
       have sA:=belA.size
       have HA:=Lib.hid happA.1
       have HogA:=Lib.hid lowA.1
       have CA:=(hcl wA belA).1
       clear happA lowA
       go_wp2_with (at_builtin;refine yA (o:=⟨some 46,_,_,_,_,_⟩) ?_)
       refine jX.go ?_
       refine yR rfl _ _ 36 rfl 24 (.slice none 0 0) 1 24 tI64S (.slice (some ⟨wA.heap.size,0,none⟩) 0 0) 0 [] (some wA.heap.size) rfl (by simpa using Row.lit wA #[] 24 1 0 (by decide) (by simp)) (some ⟨g0,0,none⟩) ys.length _ d1 rfl (by have:=T1L.out;omega) (fun h => by cases h) (by intro a ha i u hi;cases ha;rw [Addr.add_lit,Nat.zero_add];have:=(hcl (wA.alloc (.cells #[] 24)) (belA.alloc sA _)).1 i u hi;exact this) t1 (by have:=T1L.out;omega) (by unfold maxLen;omega) ?_
       intro vB wB ogB happB
       rw [Nat.zero_add,List.nil_append] at happB
       obtain ⟨oB,capB,rfl,pB1,pB2⟩:=happB.1.val
       unfold maxLen at pB2
       have lowB:=happB.low (B:=(w2).heap.size) (Nat.le_trans sA (by simp)) (fun g hg => by cases hg;exact sA)
       have lowB2:=happB.low (B:=wA.heap.size) (by simp) (fun g hg => by cases hg;exact Nat.le_refl _)
       have belB2:Below wA.heap.size wA wB:=((Below.refl _ _).alloc (Nat.le_refl _) _).trans lowB2.2
       have belB:Below (w2).heap.size (w2) wB:=belA.trans (belB2.mono sA)
       have sB:=belB.size
       have hrA:Row wB (.slice oA (1 + d2.length) capA) 1 (1 + d2.length) ([(.slice ou x.length cu)] ++ d2) ogA:=HA.out.frame (fun g hg => belB2.block g (HA.out.lt g hg))
       obtain ⟨gA,hgA⟩:=hrA.some_of (j:=0) (by omega)
       subst hgA
       obtain ⟨oA',cA',eA,_,_,_,eA2⟩:=hrA.value
       simp only [Value.slice.injEq,true_and] at eA
       obtain ⟨rfl,rfl⟩:=eA
       simp only [Option.map_some] at eA2
       subst eA2
       have HRA:=Lib.hid hrA
       have HB:=Lib.hid happB.1
       have HogB:=Lib.hid lowB.1
       clear hrA happB lowB lowB2 CA
       go_wp2_with (at_builtin;refine yA (o:=⟨some 48,_,_,_,_,_⟩) ?_)
       refine jX.go ?_
       refine yR rfl _ _ 36 rfl 24 (.slice none 0 0) 1 24 tI64S (.slice oB ys.length capB) ys.length d1 ogB rfl HB.out (some ⟨gA,0,none⟩) _ _ ([(.slice ou x.length cu)] ++ d2) rfl (by simp <;> omega) (fun h => by cases h) (by intro a ha i u hi;cases ha;rw [Addr.add_lit,Nat.zero_add];exact HRA.out.cells i u hi) (fun u hu => (List.mem_append.1 hu).elim (fun h => by simp at h;subst h;exact t3) (t2 u)) (by have:=T2L.out;omega) (by have:=T2L.out;unfold maxLen;omega) ?_
       intro vC wC ogC happC
       have lowC:=happC.low (B:=(w2).heap.size) sB HogB.out
       have belC:Below (w2).heap.size (w2) wC:=belB.trans lowC.2
       have hrC:=happC.1
       have eN:ys.length + (1 + d2.length) = ys.length + 1:=by have:=T1L.out;have:=T2L.out;omega
       rw [eN,List.singleton_append] at hrC
       have hfin:=hmk wC vC ogC belC hrC lowC.1
       obtain ⟨gC,hgC⟩:=hrC.some_of (j:=0) (by omega)
       subst hgC
       obtain ⟨capC,hvC,_,_⟩:=hrC.slice
       subst hvC
       have HFIN:=Lib.hid hfin
       clear hfin hrC happC lowC HA HB HRA HogA HogB eN
       have hfl:(sortC cmpT (bs.take (k + 1))).length = ys.length + 1:=by rw [vP];simp;rw [Hyl.out];omega
       obtain ⟨zs,hzs⟩:∃ zs,zs = sortC cmpT (bs.take (k + 1)):=⟨_,rfl⟩
       rw [← hzs] at HFIN hfl
       have hkz:zs.length = k + 1:=by rw [hfl,Hyl.out]
       rw [← hfl] at HFIN
       rw [← hfl]
       have HZ:=Lib.hid hzs
       have HKZ:=Lib.hid hkz
       clear hzs hfl hkz
       go_wp2_with fail
       go_roundw
       case rel => exact ⟨k + 1,zs,by omega,by go_num,HZ,HKZ,⟨_,_,rfl⟩,HFIN,hbel4.trans (belC.mono (Nat.le_trans hsz2 hsz5))⟩
       case measure => simp [intOf];omega
  ·have hfin:Hid (ys = forest bs):=Lib.hid (by rw [hys.out,List.take_of_length_le (by omega)];rfl)
   have hkb:¬ ((k:Int) < (bs.length:Int)):=by omega
   clear hlt
   go_wp2_with fail
   go_ret
   exact ⟨_,rfl,by rw [← hfin.out];exact hown.out,hbel⟩
end
section
theorem AFn.val1 {P:Program} {f:FuncId} {ds:List (List D)} {k:Nat} {xs:List (List D)} (h:AFn P f ds (· = [.own k xs false])):AFn P f ds (· = [.val (.sl k xs)]):=by
 refine ⟨h.call,fun A w vs hA hr => (h.fn A w vs hA hr).mono ?_⟩
 rintro e w' ⟨v,rs,rfl,rfl,hb,us,G,X,rfl,hG1,hG2,v1,us1,G1,G2,Y1,Y2,rfl,rfl,rfl,ho,⟨og,cap,F,dd,rfl,hrow,hk,rfl,rfl,hel⟩,rfl,rfl,rfl⟩
 refine ⟨_,_,rfl,rfl,hb,[_],[],[],rfl,List.nodup_nil,(fun b hb => nomatch hb),_,[],[],[],[],[],rfl,rfl,rfl,ho,⟨?_,rfl,rfl⟩,rfl,rfl,rfl⟩
 have hel:rdR k (fun b => (A b ∨ w.heap.size ≤ b)∧b ∉ og.toList ++ []) w' dd xs:=hel
 obtain ⟨oa,c,e,h1,h2,h3,h4⟩:=kK hrow
 refine yE.2 ⟨oa,c,dd,e,h1,h2,h3,hel.mono (fun b hb _ => ⟨hb.1,by simp⟩),?_⟩
 cases og with
 | none =>
  left
  have:=hrow.len0
  exact List.eq_nil_of_length_eq_zero (by rw [hrow.1,this,Nat.zero_mul])
 | some g =>
  refine .inr ⟨g,0,h4,⟨.inr (hG2 g (by simp)),by simp⟩,fun j u hj => ?_⟩
  rw [Nat.zero_add]
  exact hrow.cells j u hj
def SmF (f:List (List Int)):Prop:=f.length ≤ 19∧qX f ≤ 100
instance (f:List (List Int)):Decidable (SmF f):=inferInstanceAs (Decidable (_∧_))
theorem SmF.b {f:List (List Int)} (h:SmF f):∀ b ∈ f,b.length ≤ 1000:=fun b hb => by have:=xV hb;have:=h.2;omega
theorem AFn.valT {P:Program} {f:FuncId} {ds:List (List D)} {k:Nat} {xs:List (List D)} (h:AFn P f ds (· = [.own k xs true])):AFn P f ds (· = [.val (.sl k xs)]):=by
 refine ⟨h.call,fun A w vs hA hr => (h.fn A w vs hA hr).mono ?_⟩
 rintro e w' ⟨v,rs,rfl,rfl,hb,us,G,X,rfl,hG1,hG2,v1,us1,G1,G2,Y1,Y2,rfl,rfl,rfl,ho,⟨og,cap,F,dd,rfl,hrow,hk,rfl,rfl,hel⟩,rfl,rfl,rfl⟩
 refine ⟨_,_,rfl,rfl,hb,[_],[],[],rfl,List.nodup_nil,(fun b hb => nomatch hb),_,[],[],[],[],[],rfl,rfl,rfl,ho,⟨?_,rfl,rfl⟩,rfl,rfl,rfl⟩
 have hel:ownR k w' dd xs F:=hel
 have hv:=ownV_sl.2 ⟨og,dd,F,hrow,hel,rfl⟩
 exact hv.rd.mono (fun b hb _ => ⟨.inr (hG2 b (by simpa using hb)),by simp⟩)
theorem a_forestOf (f:List (List Int)) (hl:f.length ≤ 19) (hs:qX f ≤ 1000000000):AFn Tryz.prog 102 [eLL f] (· = [.own 1 ((forest f).map eL) true]) :=
 afn_LLL_oo (enters_of Tryz.func102 rfl rfl) (fun u w h => c_impl_forestOf u f w h hl (fun b hb => Nat.le_trans (xV hb) hs))
theorem a_l03Sort (f:List (List Int)) (hl:f.length ≤ 1000) (hs:∀ b ∈ f,b.length ≤ 1000):AFn Tryz.prog 187 [eLL f] (· = [.own 1 ((forest f).map eL) true]) :=
 afn_LLL_oo (enters_of Tryz.func187 rfl rfl) (fun u w h => c_spec_l03Sort u f w h (by omega) (fun b hb => by have:=hs b hb;omega))
theorem a_l03Times (f g:List (List Int)) (hl:f.length ≤ 400) (hs:∀ b ∈ f,b.length ≤ 1000) (hl2:g.length ≤ 400) (hs2:∀ b ∈ g,b.length ≤ 1000):AFn Tryz.prog 148 [eLL f,eLL g] (· = [.own 1 ((mulF f g).map eL) true]):=by
 have h1:=a_l01Own2 f (by omega) hs
 have h2:=a_l03Sort (f ++ g) (by rw [List.length_append];omega) (fun b hb => by
  rcases List.mem_append.1 hb with hb|hb
  ·exact hs b hb
  ·exact hs2 b hb)
 simp only [eLL,List.map_append] at h1 h2
 have q1:=jI (n:=f.length + g.length) (by omega)
 have q2:=jH (n:=f.length + g.length) (c:=24) (by omega) (by omega)
 have e:mulF f g = forest (f ++ g):=rfl
 rw [e]
 refine AFn.of_runs (qQ 10) Tryz.func148 rfl rfl rfl gz ?_
 have hres:Tryz.f148.results.toList = [.tmp 4]:=rfl
 have hrts:Tryz.f148.resultTypes.toList = [36]:=rfl
 simp only [qV,qU,eL,eI,eLL,eB,Nat.zero_add,Nat.reduceAdd]
 intro M
 refine qJ.of ?_
 refine gw40 (Yp q1 q2) ?_
 exact gw2
theorem a_l03CanonB (t:List Int) (h:qK t) (hl:t.length ≤ 1000):AFn Tryz.prog 186 [eL t] (· = [.own 1 ((canon t).map eI) true]) :=
 afn_L_o (enters_of Tryz.func186 rfl rfl) (fun u w h' => jF0 1000 u t w h' h hl (by omega))
theorem z10:((1:Int) == 0) = false:=rfl
theorem z00:((0:Int) == 0) = true:=rfl
theorem zm0:((-1:Int) == 0) = false:=rfl
end
end Go.Proofs.YtedgfkpfhonlpaaGreat
