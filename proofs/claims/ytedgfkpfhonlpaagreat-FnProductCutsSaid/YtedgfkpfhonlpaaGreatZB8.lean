/- Lemmas (8). -/
import Derived.BigQuiet
import Derived.ChangeSame
import Derived.Test.YtedgfkpfhonlpaaGreatZB0
import Derived.Test.YtedgfkpfhonlpaaGreatZB1
import Derived.Test.YtedgfkpfhonlpaaGreatZB4
import Derived.Test.YtedgfkpfhonlpaaGreatZB5
import Derived.Test.YtedgfkpfhonlpaaGreatZB6
import Derived.Test.YtedgfkpfhonlpaaGreatZB7
set_option maxHeartbeats 16000000
set_option maxRecDepth 100000
set_option linter.unusedSimpArgs false
set_option linter.unusedVariables false
namespace Go.Proofs.YtedgfkpfhonlpaaGreat
open Go.RowKit
section
theorem a_impl_IsTree (t:List Int):AFn Tryz.prog 118 [eL t] (· = [.val (.bool (canT t))]):=by
 have h1:=a_impl_IsLevels t
 unfold canT
 cases h8:lev8 t
 ·rw [h8] at h1
  rw [Bool.false_and]
  refine AFn.of_runs (qQ 11) Tryz.func118 rfl rfl rfl gz ?_
  have hres:Tryz.f118.results.toList = [.tmp 2]:=rfl
  have hrts:Tryz.f118.resultTypes.toList = [4]:=rfl
  simp only [qV,qT,eL,eI,eLL,eB,Nat.zero_add,Nat.reduceAdd]
  intro M
  refine qJ.of ?_
  refine gw1 ?_
  exact gw2
 ·rw [h8] at h1
  rw [Bool.true_and]
  have h2:=a_canonical t (wE h8) (lev8_len h8)
  have h3:=a_slicesEqual (canon t) t
  refine AFn.of_runs (qQ 11) Tryz.func118 rfl rfl rfl gz ?_
  have hres:Tryz.f118.results.toList = [.tmp 2]:=rfl
  have hrts:Tryz.f118.resultTypes.toList = [4]:=rfl
  simp only [qV,qT,eL,eI,eLL,eB,Nat.zero_add,Nat.reduceAdd]
  intro M
  refine qJ.of ?_
  refine gw3 ?_
  exact gw2
theorem a_spec_IsTree (t:List Int) (hsz:t.length ≤ 1048576):AFn Tryz.prog 128 [eL t] (· = [.val (.bool (canT t))]):=by
 have h1:=a_spec_l03Is t hsz
 unfold canT
 cases h8:lev8 t
 ·rw [h8] at h1
  rw [Bool.false_and]
  refine AFn.of_runs (qQ 11) Tryz.func128 rfl rfl rfl gz ?_
  have hres:Tryz.f128.results.toList = [.tmp 2]:=rfl
  have hrts:Tryz.f128.resultTypes.toList = [4]:=rfl
  simp only [qV,qT,eL,eI,eLL,eB,Nat.zero_add,Nat.reduceAdd]
  intro M
  refine qJ.of ?_
  refine gw4 ?_
  exact gw2
 ·rw [h8] at h1
  rw [Bool.true_and]
  have h2:=a_l03Canon t (wE h8) (lev8_len h8)
  have h3:=a_l01Same (canon t) t
  refine AFn.of_runs (qQ 11) Tryz.func128 rfl rfl rfl gz ?_
  have hres:Tryz.f128.results.toList = [.tmp 2]:=rfl
  have hrts:Tryz.f128.resultTypes.toList = [4]:=rfl
  simp only [qV,qT,eL,eI,eLL,eB,Nat.zero_add,Nat.reduceAdd]
  intro M
  refine qJ.of ?_
  refine gw5 ?_
  exact gw2
noncomputable def TFor:Tab Tryz.prog :=
 ((Tab.none.add 118 (tab1 codL fun t => some [.val (.bool (canT t))]) (jO fun t rs h => by cases h;exact a_impl_IsTree t)).add
   119 (tab2 codL codL fun xs ys => some [.val (.int (cmpT xs ys))]) (yK fun xs ys rs h => by cases h;exact a_compareTrees xs ys)).add
   88 (tab1 codLL fun f => some [.val (.int (jK f))]) (jO fun f rs h => by cases h;exact a_nodesIn f)
noncomputable def qN:Tab Tryz.prog :=
 ((Tab.none.add 128 (tab1 codL fun t => if t.length ≤ 1048576 then some [.val (.bool (canT t))] else none) (jO fun t rs h => by split at h;cases h;exact a_spec_IsTree t ‹_›;cases h)).add
   129 (tab2 codL codL fun xs ys => some [.val (.bool (decide (cmpT xs ys < 0)))]) (yK fun xs ys rs h => by cases h;exact a_l03Before xs ys)).add
   130 (tab1 codLL fun f => some [.val (.int (jK f))]) (jO fun f rs h => by cases h;exact a_l03Nodes f)
theorem vN {n:Nat} {p:Nat→Bool} (h:(List.range n).all p = true) (h2:p n = true):(List.range (n + 1)).all p = true :=
 wY.2 (fun i hi => by
  by_cases e:i = n
  ·rw [e];exact h2
  ·exact wY.1 h i (by omega))
theorem kE0 (f:List (List Int)) (hsz:qX f ≤ 1000000000) (hln:f.length ≤ 1000000000):AFn Tryz.prog 59 [eLL f] (· = [.val (.bool (forB f))]):=by
 have hn:jK f = qX f:=xI f (by omega)
 refine AFn.of_runs (qQ 33) Tryz.func59 rfl rfl rfl gz ?_
 have hres:Tryz.f59.results.toList = [.tmp 2]:=rfl
 have hrts:Tryz.f59.resultTypes.toList = [4]:=rfl
 simp only [qV,qT,eL,eI,eLL,eB,Nat.zero_add,Nat.reduceAdd]
 intro M
 refine qJ.of ?_
 by_cases h8:qX f ≤ 8
 ·have i8:((qX f:Int) > 8) = False:=eq_false (by omega)
  refine gw6 (Yp hn i8) ?_
  refine qJ.loop (β:=Nat) (γ:=Unit) (fun i => ⟨[(0,.c (.val (.sl 1 (f.map eL)))),(8,.c (.val (.sl 1 (f.map eL)))),(9,.c (.val (.int f.length))),(10,.c (.val (.int i)))],[]⟩) (fun i => i ≤ f.length∧(List.range i).all (okT f) = true) (fun i => f.length - i)
   (fun _ => ⟨[],[]⟩) (fun _ => (List.range f.length).all (okT f) = true) 0 ⟨Nat.zero_le _,rfl⟩ ?_ ?_ ?_
  ·exact gw7 Y0
  ·rintro i ⟨hi,hall⟩
   have hw:=qB (n:=i) (by omega)
   by_cases h:i < f.length
   ·have i1:((i:Int) < (f.length:Int)) = True:=eq_true (by omega)
    have i2:((0:Int) ≤ (i:Int)) = True:=eq_true (by omega)
    obtain ⟨t,ht⟩:∃ t,t = f[i]:=⟨_,rfl⟩
    have hg:(f.map eL)[i]? = some [.sl 1 (t.map eI)]:=by rw [qD h,ht];rfl
    have hgd:f.getD i [] = t:=by rw [yJ h,ht]
    by_cases hc:canT t = true
    ·by_cases h0:i = 0
     ·have j1:((i:Int) > 0) = False:=eq_false (by omega)
      have hok:okT f i = true:=by unfold okT;rw [hgd,hc,h0];rfl
      refine gw8 (Y6 i1 i2 hg hw hc j1) ?_
      refine qY.on (i + 1) ⟨⟨h,vN hall hok⟩,by omega⟩ ?_
      exact gw7 Y0
     ·have j1:((i:Int) > 0) = True:=eq_true (by omega)
      have hw1:w64 ((i:Int) - 1) = ((i - 1:Nat):Int):=by rw [qE (by omega)];omega
      have i3:((0:Int) ≤ ((i - 1:Nat):Int)) = True:=eq_true (by omega)
      have i4:(((i - 1:Nat):Int) < (f.length:Int)) = True:=eq_true (by omega)
      obtain ⟨s,hs⟩:∃ s,s = f[i - 1]:=⟨_,rfl⟩
      have hgs:(f.map eL)[i - 1]? = some [.sl 1 (s.map eI)]:=by rw [qD (by omega),hs];rfl
      have hgds:f.getD (i - 1) [] = s:=by rw [yJ (by omega),hs]
      by_cases hk:cmpT s t > 0
      ·have hok:okT f i = false:=by unfold okT;rw [hgd,hgds,hc,decide_eq_false h0,decide_eq_false (by omega)];rfl
       have hB:forB f = false:=by unfold forB;rw [kW h hok,Bool.and_false]
       have k1:(cmpT s t > 0) = True:=eq_true hk
       rw [hB]
       refine gw8 (Y11 i1 i2 i3 i4 hg hgs hw hw1 hc j1 k1) ?_
       refine qY.ret ?_
       refine gw9 Y0 ?_
       exact gw2
      ·have hok:okT f i = true:=by unfold okT;rw [hgd,hgds,hc,decide_eq_true (show cmpT s t ≤ 0 by omega),Bool.or_true];rfl
       have k1:(cmpT s t > 0) = False:=eq_false hk
       refine gw8 (Y11 i1 i2 i3 i4 hg hgs hw hw1 hc j1 k1) ?_
       refine qY.on (i + 1) ⟨⟨h,vN hall hok⟩,by omega⟩ ?_
       exact gw7 Y0
    ·have hc:canT t = false:=by simpa using hc
     have hok:okT f i = false:=by unfold okT;rw [hgd,hc,Bool.false_and]
     have hB:forB f = false:=by unfold forB;rw [kW h hok,Bool.and_false]
     rw [hB]
     refine gw8 (Y5 i1 i2 hg hw hc) ?_
     refine qY.ret ?_
     refine gw9 Y0 ?_
     exact gw2
   ·have i1:((i:Int) < (f.length:Int)) = False:=eq_false (by omega)
    obtain rfl:i = f.length:=by omega
    refine gw9 i1 ?_
    refine qY.out () hall ?_
    exact gw7 Y0
  ·rintro _ hall
   have hB:forB f = true:=by unfold forB;rw [hall,decide_eq_true h8];rfl
   rw [hB]
   refine gw9 Y0 ?_
   exact gw2
 ·have i8:((qX f:Int) > 8) = True:=eq_true (by omega)
  have hB:forB f = false:=by unfold forB;rw [decide_eq_false h8,Bool.false_and]
  rw [hB]
  refine gw6 (Yp hn i8) ?_
  exact gw2
end
section
theorem a_l03Forest (f:List (List Int)) (hsz:qX f ≤ 1048576) (hln:f.length ≤ 1048576):AFn Tryz.prog 65 [eLL f] (· = [.val (.bool (forB f))]):=by
 have hn:jK f = qX f:=xI f (by omega)
 refine AFn.of_runs (qQ 35) Tryz.func65 rfl rfl rfl gz ?_
 have hres:Tryz.f65.results.toList = [.tmp 2]:=rfl
 have hrts:Tryz.f65.resultTypes.toList = [4]:=rfl
 simp only [qV,qT,eL,eI,eLL,eB,Nat.zero_add,Nat.reduceAdd]
 intro M
 refine qJ.of ?_
 refine gw10 Y0 ?_
 refine qJ.loop (β:=Nat) (γ:=Unit) (fun i => ⟨[(0,.c (.val (.sl 1 (f.map eL)))),(3,.c (.val (.int i)))],[]⟩) (fun i => i ≤ f.length∧(List.range i).all (okT f) = true) (fun i => f.length - i)
  (fun _ => ⟨[(0,.c (.val (.sl 1 (f.map eL))))],[]⟩) (fun _ => (List.range f.length).all (okT f) = true) 0 ⟨Nat.zero_le _,rfl⟩ ?_ ?_ ?_
 ·exact gw7 Y0
 ·rintro i ⟨hi,hall⟩
  have hw:=qB (n:=i) (by omega)
  by_cases h:i < f.length
  ·have i1:((i:Int) < (f.length:Int)) = True:=eq_true (by omega)
   have i2:((0:Int) ≤ (i:Int)) = True:=eq_true (by omega)
   obtain ⟨t,ht⟩:∃ t,t = f[i]:=⟨_,rfl⟩
   have hg:(f.map eL)[i]? = some [.sl 1 (t.map eI)]:=by rw [qD h,ht];rfl
   have hgd:f.getD i [] = t:=by rw [yJ h,ht]
   have htl:(t.length ≤ 1048576) = True:=eq_true (Nat.le_trans (by rw [ht];exact jL (List.getElem_mem h)) hsz)
   by_cases hc:canT t = true
   ·by_cases h0:i = 0
    ·have j1:((i:Int) > 0) = False:=eq_false (by omega)
     have hok:okT f i = true:=by unfold okT;rw [hgd,hc,h0];rfl
     refine gw11 (Y7 i1 i2 hg hw hc j1 htl) ?_
     refine qY.on (i + 1) ⟨⟨h,vN hall hok⟩,by omega⟩ ?_
     exact gw7 Y0
    ·have j1:((i:Int) > 0) = True:=eq_true (by omega)
     have hw1:w64 ((i:Int) - 1) = ((i - 1:Nat):Int):=by rw [qE (by omega)];omega
     have i3:((0:Int) ≤ ((i - 1:Nat):Int)) = True:=eq_true (by omega)
     have i4:(((i - 1:Nat):Int) < (f.length:Int)) = True:=eq_true (by omega)
     obtain ⟨s,hs⟩:∃ s,s = f[i - 1]:=⟨_,rfl⟩
     have hgs:(f.map eL)[i - 1]? = some [.sl 1 (s.map eI)]:=by rw [qD (by omega),hs];rfl
     have hgds:f.getD (i - 1) [] = s:=by rw [yJ (by omega),hs]
     have han:=yV.anti t s
     by_cases hk:cmpT t s < 0
     ·have hok:okT f i = false:=by unfold okT;rw [hgd,hgds,hc,decide_eq_false h0,decide_eq_false (by omega)];rfl
      have hB:forB f = false:=by unfold forB;rw [kW h hok,Bool.and_false]
      have k1:decide (cmpT t s < 0) = true:=decide_eq_true hk
      rw [hB]
      refine gw11 (Y12 i1 i2 i3 i4 hg hgs hw hw1 hc j1 k1 htl) ?_
      refine qY.ret ?_
      refine gw12 ?_
      exact gw2
     ·have hok:okT f i = true:=by unfold okT;rw [hgd,hgds,hc,decide_eq_true (show cmpT s t ≤ 0 by omega),Bool.or_true];rfl
      have k1:decide (cmpT t s < 0) = false:=decide_eq_false hk
      refine gw11 (Y12 i1 i2 i3 i4 hg hgs hw hw1 hc j1 k1 htl) ?_
      refine qY.on (i + 1) ⟨⟨h,vN hall hok⟩,by omega⟩ ?_
      exact gw7 Y0
   ·have hc:canT t = false:=by simpa using hc
    have hok:okT f i = false:=by unfold okT;rw [hgd,hc,Bool.false_and]
    have hB:forB f = false:=by unfold forB;rw [kW h hok,Bool.and_false]
    rw [hB]
    refine gw11 (Y6 i1 i2 hg hw hc htl) ?_
    refine qY.ret ?_
    refine gw12 ?_
    exact gw2
  ·have i1:((i:Int) < (f.length:Int)) = False:=eq_false (by omega)
   obtain rfl:i = f.length:=by omega
   refine gw13 i1 ?_
   refine qY.out () hall ?_
   exact gw7 Y0
 ·rintro _ hall
  have hB:forB f = decide ((qX f:Int) ≤ 8):=by
   unfold forB;rw [hall,Bool.and_true]
   exact decide_eq_decide.2 (by omega)
  rw [hB]
  refine gw10 hn ?_
  exact gw2
theorem wL {n:Int} (h:n < 0):sgn n = -1:=by unfold sgn;rw [if_pos h]
theorem qX0 {n:Int} (h:0 < n):sgn n = 1:=by unfold sgn;rw [if_neg (by omega),if_neg (by omega)]
theorem sgn_zero:sgn 0 = 0:=rfl
theorem a_l05Compare (f g:List (List Int)) (hf:f.length ≤ 1000000000) (hg:g.length ≤ 1000000000):AFn Tryz.prog 195 [eLL f,eLL g] (· = [.val (.int (sgn (cmpN f g)))]):=by
 rw [cmpN_eq]
 refine AFn.of_runs (qQ 42) Tryz.func195 rfl rfl rfl gz ?_
 have hres:Tryz.f195.results.toList = [.tmp 4]:=rfl
 have hrts:Tryz.f195.resultTypes.toList = [2]:=rfl
 simp only [qV,qT,eL,eI,eLL,eB,Nat.zero_add,Nat.reduceAdd]
 intro M
 refine qJ.of ?_
 by_cases hl:f.length = g.length
 ·have hb:((f.length:Int) != (g.length:Int)) = false:=by simp [hl]
  rw [if_pos (by rw [hl])]
  refine gw14 hb ?_
  refine qJ.loop (β:=Nat) (γ:=Unit) (fun i => ⟨[(0,.c (.val (.sl 1 (f.map eL)))),(1,.c (.val (.sl 1 (g.map eL)))),(5,.c (.val (.int i)))],[]⟩) (fun i => i ≤ f.length∧lexC cmpT f g = lexC cmpT (f.drop i) (g.drop i)) (fun i => f.length - i)
   (fun _ => ⟨[],[]⟩) (fun _ => lexC cmpT f g = 0) 0 ⟨Nat.zero_le _,rfl⟩ ?_ ?_ ?_
  ·exact gw7 Y0
  ·rintro i ⟨hi,hx⟩
   have hw:=qB (n:=i) (by omega)
   by_cases h:i < f.length
   ·have h2:i < g.length:=by omega
    have i1:((i:Int) < (f.length:Int)) = True:=eq_true (by omega)
    have i1':((i:Int) < (g.length:Int)) = True:=eq_true (by omega)
    have i2:((0:Int) ≤ (i:Int)) = True:=eq_true (by omega)
    have hs:=lexC_step (c:=cmpT) h h2
    obtain ⟨t,ht⟩:∃ t,t = f[i]:=⟨_,rfl⟩
    obtain ⟨s,hsd⟩:∃ s,s = g[i]:=⟨_,rfl⟩
    rw [← ht,← hsd] at hs
    have hgt:(f.map eL)[i]? = some [.sl 1 (t.map eI)]:=by rw [qD h,ht];rfl
    have hgs:(g.map eL)[i]? = some [.sl 1 (s.map eI)]:=by rw [qD h2,hsd];rfl
    have han:=yV.anti s t
    by_cases c1:cmpT t s < 0
    ·have d1:decide (cmpT t s < 0) = true:=decide_eq_true c1
     rw [hx,hs,if_neg (by omega),wL c1]
     refine gw15 (Y7 i1 i1' i2 hgt hgs hw d1) ?_
     refine qY.ret ?_
     refine gw16 ?_
     exact gw2
    ·have d1:decide (cmpT t s < 0) = false:=decide_eq_false c1
     by_cases c2:cmpT s t < 0
     ·have d2:decide (cmpT s t < 0) = true:=decide_eq_true c2
      rw [hx,hs,if_neg (by omega),qX0 (by omega)]
      refine gw15 (Y8 i1 i1' i2 hgt hgs hw d1 d2) ?_
      refine qY.ret ?_
      refine gw16 ?_
      exact gw2
     ·have d2:decide (cmpT s t < 0) = false:=decide_eq_false c2
      rw [if_pos (by omega)] at hs
      refine gw15 (Y8 i1 i1' i2 hgt hgs hw d1 d2) ?_
      refine qY.on (i + 1) ⟨⟨h,by rw [hx,hs]⟩,by omega⟩ ?_
      exact gw7 Y0
   ·have i1:((i:Int) < (f.length:Int)) = False:=eq_false (by omega)
    rw [lexC_end0 h (by omega)] at hx
    refine gw17 i1 ?_
    refine qY.out () hx ?_
    exact gw7 Y0
  ·rintro _ h0
   rw [h0,sgn_zero]
   refine gw16 ?_
   exact gw2
 ·have hb:((f.length:Int) != (g.length:Int)) = true:=by simp;omega
  rw [if_neg (by omega)]
  by_cases h2:f.length < g.length
  ·have i1:((f.length:Int) < (g.length:Int)) = True:=eq_true (by omega)
   rw [wL (by omega)]
   refine gw14 (Yp hb i1) ?_
   exact gw2
  ·have i1:((f.length:Int) < (g.length:Int)) = False:=eq_false (by omega)
   rw [qX0 (by omega)]
   refine gw14 (Yp hb i1) ?_
   exact gw2
theorem a_l06Order (f g:List (List Int)) (hf:qX f ≤ 1000000000) (hg:qX g ≤ 1000000000) (hf2:f.length ≤ 1000000000) (hg2:g.length ≤ 1000000000):AFn Tryz.prog 136 [eLL f,eLL g] (· = [.val (.int (sgn (cmpF f g)))]):=by
 have hn1:jK f = qX f:=xI f (by omega)
 have hn2:jK g = qX g:=xI g (by omega)
 have hc:=a_l05Compare f g hf2 hg2
 simp only [eLL] at hc
 rw [cmpF_N]
 refine AFn.of_runs (qQ 20) Tryz.func136 rfl rfl rfl gz ?_
 have hres:Tryz.f136.results.toList = [.tmp 4]:=rfl
 have hrts:Tryz.f136.resultTypes.toList = [2]:=rfl
 simp only [qV,qT,eL,eI,eLL,eB,Nat.zero_add,Nat.reduceAdd]
 intro M
 refine qJ.of ?_
 by_cases hl:qX f = qX g
 ·have hb:((qX f:Int) != (qX g:Int)) = false:=by simp [hl]
  rw [if_pos (by rw [hl])]
  refine gw18 (Y3 hb hn1 hn2) ?_
  exact gw2
 ·have hb:((qX f:Int) != (qX g:Int)) = true:=by simp;omega
  rw [if_neg (by omega)]
  by_cases h2:qX f < qX g
  ·have i1:((qX f:Int) < (qX g:Int)) = True:=eq_true (by omega)
   rw [wL (by omega)]
   refine gw18 (Y4 hb hn1 hn2 i1) ?_
   exact gw2
  ·have i1:((qX f:Int) < (qX g:Int)) = False:=eq_false (by omega)
   rw [qX0 (by omega)]
   refine gw18 (Y4 hb hn1 hn2 i1) ?_
   exact gw2
theorem yK0 (f g:List (List Int)) (hf:qX f ≤ 1000000000) (hg:qX g ≤ 1000000000):AFn Tryz.prog 87 [eLL f,eLL g] (· = [.val (.int (cmpF f g))]):=by
 refine ⟨enters_of Tryz.func87 rfl rfl,fun A w vs hA ⟨v1,_,e1,h1,v2,_,e2,h2,e3⟩ => ?_⟩
 subst e3;subst e2;subst e1
 have r1:=Rd.of (rdLL h1)
 have r2:=Rd.of (rdLL h2)
 obtain ⟨oa,c1,k1,m1,m2⟩:=r1.val
 obtain ⟨ob,c2,k2,m3,m4⟩:=r2.val
 refine (jQ0 v1 v2 f g w r1 r2 (by omega) (by omega)).mono ?_
 rintro e w' ⟨rfl,rfl⟩
 have hle:∀ {f:List (List Int)},qX f ≤ 1000000000→∀ t ∈ f,t.length ≤ maxLen:=fun h t ht => Nat.le_trans (jL ht) (Nat.le_trans h (by decide))
 exact ⟨_,_,rfl,rfl,Below.refl _ _,[_],[],[],rfl,List.nodup_nil,by simp,_,[],[],[],[],[],rfl,rfl,rfl,rfl,⟨jY.2 ⟨rfl,cmpF_in64 (by omega) (by omega) (by omega) (by omega) (hle hf) (hle hg)⟩,rfl,rfl⟩,rfl,rfl,rfl⟩
end
section
section
variable {β:Type} {S:Rep β} {w:World}
end
abbrev RPart:Rep (Int × List (List Int)):=RP RI (RS (RS RI))
end
section
section
variable {β:Type} {S:Rep β} {w:World}
end
end
section
section
variable {β:Type} {S:Rep β} {w:World}
end
def szN:List (Int × List (List Int))→Nat
 | [] => 0
 | p :: ps => (p.2.length + qX p.2) + szN ps
def szP (e:List (Int × List (List Int))):Prop:=e.length + szN e ≤ 1048576
theorem szN_mem:∀ {e:List (Int × List (List Int))} {p:Int × List (List Int)},p ∈ e→p.2.length + qX p.2 ≤ szN e
 | q :: e,p,h => by
  rcases List.mem_cons.1 h with rfl|h
  ·unfold szN;omega
  ·have:=szN_mem h;unfold szN;omega
theorem tPartI:ST Tryz.prog 50 71 (.agg #[.int .i64 0,.slice none 0 0]) 2 32:=ST.mk' (by kernel_rfl) (by kernel_rfl) rfl (by decide)
end
section
def ePt (x:Int × List (List Int)):List D:=[.int x.1,.sl 1 (x.2.map eL)]
def codPt:Cod (Int × List (List Int)):=codP 1 codI codLL (fun _ => rfl)
theorem qW0 (xs:List (Int × List (List Int))):(codS 2 codPt).d [.sl 2 (xs.map ePt)] = some xs:=(codS 2 codPt).de xs
end
section
theorem szP.at {e:List (Int × List (List Int))} (h:szP e) {i:Nat} (hi:i < e.length):qX e[i].2 ≤ 1048576∧e[i].2.length ≤ 1048576:=by
 have:=szN_mem (List.getElem_mem hi)
 unfold szP at h
 omega
theorem okP_no1 {e:Elt} {i:Nat} {c:Int} {f:List (List Int)} (h:e.getD i (0,[]) = (c,f)) (hc:isNum c = false ∨ c = 0):okP e i = false:=by
 unfold okP
 rw [h]
 unfold isNum inR at hc
 by_cases h1:1 ≤ c
 ·have h2:¬ c < 10007:=by simp at hc;omega
  rw [decide_eq_false h2,Bool.and_false,Bool.false_and,Bool.false_and]
 ·rw [decide_eq_false h1,Bool.false_and,Bool.false_and,Bool.false_and]
theorem okP_no2 {e:Elt} {i:Nat} {c:Int} {f:List (List Int)} (h:e.getD i (0,[]) = (c,f)) (hc:forB f = false):okP e i = false:=by
 unfold okP;rw [h,hc,Bool.and_false,Bool.false_and]
theorem okP_no3 {e:Elt} {i:Nat} {c:Int} {f g:List (List Int)} {k:Int} (h:e.getD i (0,[]) = (c,f)) (h2:e.getD (i - 1) (0,[]) = (k,g)) (h0:i ≠ 0) (hc:¬ cmpF g f < 0):okP e i = false:=by
 unfold okP;rw [h,h2,decide_eq_false h0,decide_eq_false hc,Bool.or_self,Bool.and_false]
theorem okP_yes {e:Elt} {i:Nat} {c:Int} {f g:List (List Int)} {k:Int} (h:e.getD i (0,[]) = (c,f)) (h2:e.getD (i - 1) (0,[]) = (k,g)) (hn:isNum c = true) (h1:c ≠ 0) (hf:forB f = true) (h0:i = 0 ∨ cmpF g f < 0):okP e i = true:=by
 unfold isNum inR at hn
 simp at hn
 unfold okP
 rw [h,h2,decide_eq_true (show 1 ≤ c by omega),decide_eq_true (show c < 10007 by omega),hf]
 rcases h0 with h0|h0
 ·rw [decide_eq_true h0];rfl
 ·rw [decide_eq_true h0,Bool.or_true];rfl
end
section
theorem a_impl_IsNumber (n:Int):AFn Tryz.prog 86 [eI n] (· = [.val (.bool (isNum n))]):=afn_I_s (v:=.bool _) (enters_of Tryz.func86 rfl rfl) (fun _ _ => jP.2 rfl) (fun w => kX0 n w)
noncomputable def TEl:Tab Tryz.prog :=
 ((Tab.none.add 86 (tab1 codI fun n => some [.val (.bool (isNum n))]) (jO fun n rs h => by cases h;exact a_impl_IsNumber n)).add
   59 (tab1 codLL fun f => if qX f ≤ 1048576∧f.length ≤ 1048576 then some [.val (.bool (forB f))] else none) (jO fun f rs h => by split at h;cases h;rename_i hs;exact kE0 f (by omega) (by omega);cases h)).add
   87 (tab2 codLL codLL fun f g => if qX f ≤ 1048576∧qX g ≤ 1048576 then some [.val (.int (cmpF f g))] else none) (yK fun f g rs h => by split at h;cases h;rename_i hs;exact yK0 f g (by omega) (by omega);cases h)
theorem yD0 (e:Elt) (hsz:szP e):AFn Tryz.prog 32 [[.sl 2 (e.map ePt)]] (· = [.val (.bool (elB e))]):=by
 refine AFn.of_runs (qQ 47) Tryz.func32 rfl rfl rfl gz ?_
 have hres:Tryz.f32.results.toList = [.tmp 2]:=rfl
 have hrts:Tryz.f32.resultTypes.toList = [4]:=rfl
 simp only [qV,qT,eL,eI,eLL,eB,Nat.zero_add,Nat.reduceAdd]
 intro M
 refine qJ.of ?_
 have hln:e.length ≤ 1048576:=by unfold szP at hsz;omega
 by_cases h3:e.length ≤ 300
 ·have i8:((e.length:Int) > 300) = False:=eq_false (by omega)
  refine gw19 i8 ?_
  refine qJ.loop (β:=Nat) (γ:=Unit) (fun i => ⟨[(0,.c (.val (.sl 2 (e.map ePt)))),(8,.c (.val (.sl 2 (e.map ePt)))),(9,.c (.val (.int e.length))),(10,.c (.val (.int i)))],[]⟩) (fun i => i ≤ e.length∧(List.range i).all (okP e) = true) (fun i => e.length - i)
   (fun _ => ⟨[],[]⟩) (fun _ => (List.range e.length).all (okP e) = true) 0 ⟨Nat.zero_le _,rfl⟩ ?_ ?_ ?_
  ·exact gw20
  ·rintro i ⟨hi,hall⟩
   have hw:=qB (n:=i) (by omega)
   by_cases h:i < e.length
   ·have i1:((i:Int) < (e.length:Int)) = True:=eq_true (by omega)
    have i2:((0:Int) ≤ (i:Int)) = True:=eq_true (by omega)
    have hs1:=hsz.at h
    obtain ⟨c,f,ht⟩:∃ c f,(c,f) = e[i]:=⟨_,_,rfl⟩
    have hg:(e.map ePt)[i]? = some [.int c,.sl 1 (f.map eL)]:=by rw [qD h,← ht];rfl
    have hgd:e.getD i (0,[]) = (c,f):=by rw [yJ h,ht]
    rw [← ht] at hs1
    simp only at hs1
    have s1:=eq_true hs1
    have s1':=eq_true hs1.1
    by_cases hc0:c = 0
    ·have e0:(c == 0) = true:=by rw [hc0];rfl
     have hB:elB e = false:=by unfold elB;rw [kW h (okP_no1 hgd (.inr hc0)),Bool.and_false]
     rw [hB]
     refine gw21 (Y5 i1 i2 hg hw e0) ?_
     refine qY.ret ?_
     refine gw22 Y0 ?_
     exact gw2
    ·have e0:(c == 0) = false:=beq_eq_false_iff_ne.2 hc0
     by_cases hn:isNum c = true
     ·by_cases hf:forB f = true
      ·by_cases h0:i = 0
       ·have j1:((i:Int) > 0) = False:=eq_false (by omega)
        have hok:okP e i = true:=okP_yes hgd rfl hn hc0 hf (.inl h0)
        refine gw21 (Y9 i1 i2 hg hw e0 hn hf s1 j1) ?_
        refine qY.on (i + 1) ⟨⟨h,vN hall hok⟩,by omega⟩ ?_
        exact gw7 Y0
       ·have j1:((i:Int) > 0) = True:=eq_true (by omega)
        have hw1:w64 ((i:Int) - 1) = ((i - 1:Nat):Int):=by rw [qE (by omega)];omega
        have i3:((0:Int) ≤ ((i - 1:Nat):Int)) = True:=eq_true (by omega)
        have i4:(((i - 1:Nat):Int) < (e.length:Int)) = True:=eq_true (by omega)
        have hs2:=hsz.at (show i - 1 < e.length by omega)
        obtain ⟨k,g,ht2⟩:∃ k g,(k,g) = e[i - 1]:=⟨_,_,rfl⟩
        have hg2:(e.map ePt)[i - 1]? = some [.int k,.sl 1 (g.map eL)]:=by rw [qD (by omega),← ht2];rfl
        have hgd2:e.getD (i - 1) (0,[]) = (k,g):=by rw [yJ (by omega),ht2]
        rw [← ht2] at hs2
        simp only at hs2
        have s2:(qX g ≤ 1048576∧qX f ≤ 1048576) = True:=eq_true ⟨hs2.1,hs1.1⟩
        by_cases hk:cmpF g f < 0
        ·have hok:okP e i = true:=okP_yes hgd hgd2 hn hc0 hf (.inr hk)
         have k1:(cmpF g f ≥ 0) = False:=eq_false (by omega)
         refine gw21 (Y12 i1 i2 i3 i4 hg hg2 hw hw1 e0 hn hf (Y4 s1 s2 j1 k1)) ?_
         refine qY.on (i + 1) ⟨⟨h,vN hall hok⟩,by omega⟩ ?_
         exact gw7 Y0
        ·have hB:elB e = false:=by unfold elB;rw [kW h (okP_no3 hgd hgd2 h0 hk),Bool.and_false]
         have k1:(cmpF g f ≥ 0) = True:=eq_true (by omega)
         rw [hB]
         refine gw21 (Y12 i1 i2 i3 i4 hg hg2 hw hw1 e0 hn hf (Y4 s1 s2 j1 k1)) ?_
         refine qY.ret ?_
         refine gw22 Y0 ?_
         exact gw2
      ·have hf:forB f = false:=by simpa using hf
       have hB:elB e = false:=by unfold elB;rw [kW h (okP_no2 hgd hf),Bool.and_false]
       rw [hB]
       refine gw21 (Y8 i1 i2 hg hw e0 hn hf s1) ?_
       refine qY.ret ?_
       refine gw22 Y0 ?_
       exact gw2
     ·have hn:isNum c = false:=by simpa using hn
      have hB:elB e = false:=by unfold elB;rw [kW h (okP_no1 hgd (.inl hn)),Bool.and_false]
      rw [hB]
      refine gw21 (Y6 i1 i2 hg hw e0 hn) ?_
      refine qY.ret ?_
      refine gw22 Y0 ?_
      exact gw2
   ·have i1:((i:Int) < (e.length:Int)) = False:=eq_false (by omega)
    obtain rfl:i = e.length:=by omega
    refine gw22 i1 ?_
    refine qY.out () hall ?_
    exact gw7 Y0
  ·rintro _ hall
   have hB:elB e = true:=by unfold elB;rw [hall,decide_eq_true h3];rfl
   rw [hB]
   refine gw22 Y0 ?_
   exact gw2
 ·have i8:((e.length:Int) > 300) = True:=eq_true (by omega)
  have hB:elB e = false:=by unfold elB;rw [decide_eq_false h3,Bool.false_and]
  rw [hB]
  refine gw19 i8 ?_
  exact gw2
end
section
noncomputable def TElS:Tab Tryz.prog :=
 ((Tab.none.add 135 (tab3 codI codI codI fun x y z => some [.val (.bool (inR x y z))]) (tab3_ok fun x y z rs h => by cases h;exact a_spec_l01In x y z)).add
   65 (tab1 codLL fun f => if qX f ≤ 1048576∧f.length ≤ 1048576 then some [.val (.bool (forB f))] else none) (jO fun f rs h => by split at h;cases h;rename_i hs;exact a_l03Forest f (by omega) (by omega);cases h)).add
   136 (tab2 codLL codLL fun f g => if (qX f ≤ 1048576∧qX g ≤ 1048576)∧(f.length ≤ 1048576∧g.length ≤ 1048576) then some [.val (.int (sgn (cmpF f g)))] else none) (yK fun f g rs h => by split at h;cases h;rename_i hs;exact a_l06Order f g (by omega) (by omega) (by omega) (by omega);cases h)
theorem sgn_ge {n:Int}:(sgn n ≥ 0) = (¬ n < 0):=by
 unfold sgn
 by_cases h:n < 0
 ·rw [if_pos h];exact propext ⟨fun h => absurd h (by decide),fun k => absurd h k⟩
 ·rw [if_neg h];split <;> exact propext ⟨fun _ => h,fun _ => by decide⟩
theorem a_l06Is (e:Elt) (hsz:szP e):AFn Tryz.prog 70 [[.sl 2 (e.map ePt)]] (· = [.val (.bool (elB e))]):=by
 refine AFn.of_runs (qQ 48) Tryz.func70 rfl rfl rfl gz ?_
 have hres:Tryz.f70.results.toList = [.tmp 2]:=rfl
 have hrts:Tryz.f70.resultTypes.toList = [4]:=rfl
 simp only [qV,qT,eL,eI,eLL,eB,Nat.zero_add,Nat.reduceAdd]
 intro M
 refine qJ.of ?_
 have hln:e.length ≤ 1048576:=by unfold szP at hsz;omega
 refine gw23 Y0 ?_
 refine qJ.loop (β:=Nat) (γ:=Unit) (fun i => ⟨[(0,.c (.val (.sl 2 (e.map ePt)))),(3,.c (.val (.int i)))],[]⟩) (fun i => i ≤ e.length∧(List.range i).all (okP e) = true) (fun i => e.length - i)
  (fun _ => ⟨[(0,.c (.val (.sl 2 (e.map ePt))))],[]⟩) (fun _ => (List.range e.length).all (okP e) = true) 0 ⟨Nat.zero_le _,rfl⟩ ?_ ?_ ?_
 ·exact gw7 Y0
 ·rintro i ⟨hi,hall⟩
  have hw:=qB (n:=i) (by omega)
  by_cases h:i < e.length
  ·have i1:((i:Int) < (e.length:Int)) = True:=eq_true (by omega)
   have i2:((0:Int) ≤ (i:Int)) = True:=eq_true (by omega)
   have hs1:=hsz.at h
   obtain ⟨c,f,ht⟩:∃ c f,(c,f) = e[i]:=⟨_,_,rfl⟩
   have hg:(e.map ePt)[i]? = some [.int c,.sl 1 (f.map eL)]:=by rw [qD h,← ht];rfl
   have hgd:e.getD i (0,[]) = (c,f):=by rw [yJ h,ht]
   rw [← ht] at hs1
   simp only at hs1
   have s1:=eq_true hs1
   by_cases hn:inR c 1 10006 = true
   ·have hn1:isNum c = true∧c ≠ 0:=by unfold inR at hn;unfold isNum inR;simp at hn ⊢;omega
    by_cases hf:forB f = true
    ·by_cases h0:i = 0
     ·have j1:((i:Int) > 0) = False:=eq_false (by omega)
      have hok:okP e i = true:=okP_yes hgd rfl hn1.1 hn1.2 hf (.inl h0)
      refine gw24 (Y8 i1 i2 hg hw hn hf s1 j1) ?_
      refine qY.on (i + 1) ⟨⟨h,vN hall hok⟩,by omega⟩ ?_
      exact gw7 Y0
     ·have j1:((i:Int) > 0) = True:=eq_true (by omega)
      have hw1:w64 ((i:Int) - 1) = ((i - 1:Nat):Int):=by rw [qE (by omega)];omega
      have i3:((0:Int) ≤ ((i - 1:Nat):Int)) = True:=eq_true (by omega)
      have i4:(((i - 1:Nat):Int) < (e.length:Int)) = True:=eq_true (by omega)
      have hs2:=hsz.at (show i - 1 < e.length by omega)
      obtain ⟨k,g,ht2⟩:∃ k g,(k,g) = e[i - 1]:=⟨_,_,rfl⟩
      have hg2:(e.map ePt)[i - 1]? = some [.int k,.sl 1 (g.map eL)]:=by rw [qD (by omega),← ht2];rfl
      have hgd2:e.getD (i - 1) (0,[]) = (k,g):=by rw [yJ (by omega),ht2]
      rw [← ht2] at hs2
      simp only at hs2
      have s2:((qX g ≤ 1048576∧qX f ≤ 1048576)∧(g.length ≤ 1048576∧f.length ≤ 1048576)) = True:=eq_true ⟨⟨hs2.1,hs1.1⟩,hs2.2,hs1.2⟩
      by_cases hk:cmpF g f < 0
      ·have hok:okP e i = true:=okP_yes hgd hgd2 hn1.1 hn1.2 hf (.inr hk)
       have k1:(sgn (cmpF g f) ≥ 0) = False:=by rw [sgn_ge];exact eq_false (fun k => k hk)
       refine gw24 (Y12 i1 i2 i3 i4 hg hg2 hw hw1 hn hf s1 (Y3 s2 j1 k1)) ?_
       refine qY.on (i + 1) ⟨⟨h,vN hall hok⟩,by omega⟩ ?_
       exact gw7 Y0
      ·have hB:elB e = false:=by unfold elB;rw [kW h (okP_no3 hgd hgd2 h0 hk),Bool.and_false]
       have k1:(sgn (cmpF g f) ≥ 0) = True:=by rw [sgn_ge];exact eq_true hk
       rw [hB]
       refine gw24 (Y12 i1 i2 i3 i4 hg hg2 hw hw1 hn hf s1 (Y3 s2 j1 k1)) ?_
       refine qY.ret ?_
       refine gw25 ?_
       exact gw2
    ·have hf:forB f = false:=by simpa using hf
     have hB:elB e = false:=by unfold elB;rw [kW h (okP_no2 hgd hf),Bool.and_false]
     rw [hB]
     refine gw24 (Y7 i1 i2 hg hw hn hf s1) ?_
     refine qY.ret ?_
     refine gw25 ?_
     exact gw2
   ·have hn:inR c 1 10006 = false:=by simpa using hn
    have hB:elB e = false:=by
     unfold elB
     rw [kW h (okP_no1 hgd ?_),Bool.and_false]
     unfold inR at hn
     unfold isNum inR
     simp at hn ⊢
     omega
    rw [hB]
    refine gw24 (Y5 i1 i2 hg hw hn) ?_
    refine qY.ret ?_
    refine gw25 ?_
    exact gw2
  ·have i1:((i:Int) < (e.length:Int)) = False:=eq_false (by omega)
   obtain rfl:i = e.length:=by omega
   refine gw23 i1 ?_
   refine qY.out () hall ?_
   exact gw7 Y0
 ·rintro _ hall
  have hB:elB e = decide ((e.length:Int) ≤ 300):=by
   unfold elB;rw [hall,Bool.and_true]
   exact decide_eq_decide.2 (by omega)
  rw [hB]
  refine gw23 Y0 ?_
  exact gw2
end
section
theorem degE_last {e:Elt} {c:Int} {f:List (List Int)} (h:e[e.length - 1]? = some (c,f)):degE e = qX f:=by
 unfold degE
 rw [List.getLast?_eq_getElem?,h]
theorem a_l06Degree (e:Elt) (hz:szP e):AFn Tryz.prog 84 [[.sl 2 (e.map ePt)]] (· = [.val (.int (degE e))]):=by
 refine AFn.of_runs (qQ 14) Tryz.func84 rfl rfl rfl gz ?_
 have hres:Tryz.f84.results.toList = [.tmp 2]:=rfl
 have hrts:Tryz.f84.resultTypes.toList = [2]:=rfl
 simp only [qV,qT,eL,eI,eLL,eB,Nat.zero_add,Nat.reduceAdd]
 intro M
 refine qJ.of ?_
 by_cases h0:e.length = 0
 ·have i0:((e.length:Int) == 0) = true:=by rw [h0];rfl
  rw [show degE e = -1 by rw [List.eq_nil_of_length_eq_zero h0];rfl]
  refine gw26 i0 ?_
  exact gw2
 ·have i0:((e.length:Int) == 0) = false:=beq_eq_false_iff_ne.2 (by omega)
  have hln:e.length ≤ 1048576:=by unfold szP at hz;omega
  have hs:=hz.at (show e.length - 1 < e.length by omega)
  obtain ⟨c,f,ht⟩:∃ c f,(c,f) = e[e.length - 1]:=⟨_,_,rfl⟩
  rw [← ht] at hs
  simp only at hs
  have hg:(e.map ePt)[e.length - 1]? = some [.int c,.sl 1 (f.map eL)]:=by rw [qD (by omega),← ht];rfl
  have hd:=degE_last (e:=e) (c:=c) (f:=f) (by rw [List.getElem?_eq_getElem (by omega),← ht])
  have hn:jK f = qX f:=xI f (by omega)
  have ha:=a_l03Nodes f
  simp only [eLL] at ha
  have hw:w64 ((e.length:Int) - 1) = ((e.length - 1:Nat):Int):=by rw [qE (by omega)];omega
  have i1:((0:Int) ≤ ((e.length - 1:Nat):Int)) = True:=eq_true (by omega)
  have i2:(((e.length - 1:Nat):Int) < (e.length:Int)) = True:=eq_true (by omega)
  rw [hd,← hn]
  refine gw27 (Y5 i0 i1 i2 hg hw) ?_
  exact gw2
theorem a_impl_DegreeOf (e:Elt) (hz:szP e):AFn Tryz.prog 34 [[.sl 2 (e.map ePt)]] (· = [.val (.int (degOf e).1),.val (.int (degOf e).2)]):=by
 have he:=yD0 e hz
 unfold degOf
 refine AFn.of_runs (qQ 18) Tryz.func34 rfl rfl rfl gz ?_
 have hres:Tryz.f34.results.toList = [.tmp 2,.tmp 3]:=rfl
 have hrts:Tryz.f34.resultTypes.toList = [2,2]:=rfl
 simp only [qV,qT,eL,eI,eLL,eB,Nat.zero_add,Nat.reduceAdd]
 intro M
 refine qJ.of ?_
 by_cases hE:elB e = true
 ·rw [if_pos hE]
  rw [hE] at he
  by_cases h0:e.length = 0
  ·have i0:((e.length:Int) == 0) = true:=by rw [h0];rfl
   rw [show degE e = -1 by rw [List.eq_nil_of_length_eq_zero h0];rfl]
   refine gw28 i0 ?_
   exact gw2
  ·have i0:((e.length:Int) == 0) = false:=beq_eq_false_iff_ne.2 (by omega)
   have hln:e.length ≤ 1048576:=by unfold szP at hz;omega
   have hs:=hz.at (show e.length - 1 < e.length by omega)
   obtain ⟨c,f,ht⟩:∃ c f,(c,f) = e[e.length - 1]:=⟨_,_,rfl⟩
   rw [← ht] at hs
   simp only at hs
   have hg:(e.map ePt)[e.length - 1]? = some [.int c,.sl 1 (f.map eL)]:=by rw [qD (by omega),← ht];rfl
   have hd:=degE_last (e:=e) (c:=c) (f:=f) (by rw [List.getElem?_eq_getElem (by omega),← ht])
   have hn:jK f = qX f:=xI f (by omega)
   have ha:=a_nodesIn f
   simp only [eLL] at ha
   have hw:w64 ((e.length:Int) - 1) = ((e.length - 1:Nat):Int):=by rw [qE (by omega)];omega
   have i1:((0:Int) ≤ ((e.length - 1:Nat):Int)) = True:=eq_true (by omega)
   have i2:(((e.length - 1:Nat):Int) < (e.length:Int)) = True:=eq_true (by omega)
   rw [hd,← hn]
   refine gw29 (Y5 i0 i1 i2 hg hw) ?_
   exact gw2
 ·rw [if_neg hE]
  have hE:elB e = false:=by simpa using hE
  rw [hE] at he
  refine gw30 ?_
  exact gw2
end
section
section
variable {κ:Type} (c:κ→κ→Int)
def putN:List (κ × Int)→Int→κ→List (κ × Int)
 | [],k,x => [(x,k)]
 | p :: L,k,x => if c x p.1 < 0 then (x,k) :: p :: L else if c x p.1 = 0 then (p.1,p.2 + k) :: L else p :: putN L k x
def expN (L:List (κ × Int)):List κ:=L.flatMap fun p => List.replicate p.2.toNat p.1
def NfN (L:List (κ × Int)):Prop:=L.Pairwise (fun p q => c p.1 q.1 < 0)∧∀ q ∈ L,1 ≤ q.2
def IsN (L:List (κ × Int)) (M:List κ):Prop:=NfN c L∧(expN L).Perm M
end
section
variable {κ:Type} {c:κ→κ→Int}
theorem yY (p:κ × Int) (L:List (κ × Int)):expN (p :: L) = List.replicate p.2.toNat p.1 ++ expN L:=rfl
theorem qQ0 (L M:List (κ × Int)):expN (L ++ M) = expN L ++ expN M:=by simp [expN]
theorem expN_mem {L:List (κ × Int)} {x:κ} (h:x ∈ expN L):∃ p ∈ L,p.1 = x:=by
 obtain ⟨p,hp,h⟩:=List.mem_flatMap.1 h
 exact ⟨p,hp,(List.eq_of_mem_replicate h).symm⟩
theorem mem_expN {L:List (κ × Int)} {p:κ × Int} (h:p ∈ L) (h1:1 ≤ p.2):p.1 ∈ expN L :=
 List.mem_flatMap.2 ⟨p,h,List.mem_replicate.2 ⟨by omega,rfl⟩⟩
theorem NfN.nil:NfN c []:=⟨List.Pairwise.nil,fun q hq => nomatch hq⟩
theorem IsN.nil:IsN c [] []:=⟨NfN.nil,List.Perm.refl _⟩
theorem IsN.perm {L:List (κ × Int)} {M M':List κ} (h:IsN c L M) (hp:M.Perm M'):IsN c L M':=⟨h.1,h.2.trans hp⟩
theorem NfN.tail {p:κ × Int} {L:List (κ × Int)} (h:NfN c (p :: L)):NfN c L:=⟨(List.pairwise_cons.1 h.1).2,fun q hq => h.2 q (List.mem_cons_of_mem _ hq)⟩
variable (hc:Cmp c)
include hc
theorem NfN.ext:∀ {L L':List (κ × Int)},NfN c L→NfN c L'→(expN L).Perm (expN L')→L = L'
 | [],[],_,_,_ => rfl
 | [],q :: L',_,h',hp => by
  have:=hp.length_eq
  have h1:=h'.2 q (by simp)
  rw [yY,List.length_append,List.length_replicate] at this
  simp [expN] at this;omega
 | p :: L,[],h,_,hp => by
  have:=hp.length_eq
  have h1:=h.2 p (by simp)
  rw [yY,List.length_append,List.length_replicate] at this
  simp [expN] at this;omega
 | p :: L,q :: L',h,h',hp => by
  have hp1:=h.2 p (by simp)
  have hq1:=h'.2 q (by simp)
  have low:∀ {p:κ × Int} {L:List (κ × Int)},NfN c (p :: L)→∀ x ∈ expN (p :: L),c p.1 x ≤ 0:=fun {p L} h x hx => by
   obtain ⟨r,hr,rfl⟩:=expN_mem hx
   rcases List.mem_cons.1 hr with rfl|hr
   ·rw [hc.refl];omega
   ·have:=(List.pairwise_cons.1 h.1).1 r hr;omega
  have e1:=low h q.1 (hp.mem_iff.2 (mem_expN (by simp) hq1))
  have e2:=low h' p.1 (hp.mem_iff.1 (mem_expN (by simp) hp1))
  have ek:p.1 = q.1:=by
   apply hc.zero
   rcases Int.lt_or_eq_of_le e1 with e|e
   ·have:=(hc.anti _ _).1 e;omega
   ·exact e
  have no:∀ {p:κ × Int} {L:List (κ × Int)},NfN c (p :: L)→p.1 ∉ expN L:=fun {p L} h hx => by
   obtain ⟨r,hr,e⟩:=expN_mem hx
   have:=(List.pairwise_cons.1 h.1).1 r hr
   rw [e,hc.refl] at this;omega
  have hcnt:∀ {p:κ × Int} {L:List (κ × Int)},NfN c (p :: L)→(expN (p :: L)).countP (fun x => decide (c p.1 x = 0)) = p.2.toNat:=fun {p L} h => by
   rw [yY,List.countP_append,List.countP_replicate,if_pos (by simp [hc.refl])]
   have:(expN L).countP (fun x => decide (c p.1 x = 0)) = 0:=List.countP_eq_zero.2 fun x hx => by
    have:c p.1 x ≠ 0:=fun e => no h (by rw [hc.zero _ _ e];exact hx)
    simpa using this
   omega
  have c1:=hcnt h
  have c2:=hcnt h'
  rw [← ek,← hp.countP_eq] at c2
  have en:p.2 = q.2:=by omega
  have epq:p = q:=Prod.ext ek en
  subst epq
  rw [yY,yY,List.perm_append_left_iff] at hp
  rw [NfN.ext h.tail h'.tail hp]
theorem IsN.ext {L L':List (κ × Int)} {M M':List κ} (h:IsN c L M) (h':IsN c L' M') (hp:M.Perm M'):L = L' :=
 NfN.ext hc h.1 h'.1 (h.2.trans (hp.trans h'.2.symm))
theorem putN_exp:∀ (L:List (κ × Int)) (k:Int) (x:κ),(∀ q ∈ L,1 ≤ q.2)→1 ≤ k→(expN (putN c L k x)).Perm (expN L ++ List.replicate k.toNat x)
 | [],k,x,_,_ => by simp [putN,expN]
 | p :: L,k,x,h,hk => by
  unfold putN
  split
  ·rw [yY];exact List.perm_append_comm
  ·split
   ·rename_i e
    rw [yY,yY,hc.zero _ _ e]
    have:=h p (by simp)
    show (List.replicate (p.2 + k).toNat p.1 ++ expN L).Perm _
    rw [show (p.2 + k).toNat = p.2.toNat + k.toNat by omega,← List.replicate_append_replicate,List.append_assoc,List.append_assoc]
    exact (List.perm_append_left_iff _).2 List.perm_append_comm
   ·rw [yY,yY,List.append_assoc]
    exact (List.perm_append_left_iff _).2 (putN_exp L k x (fun q hq => h q (by simp [hq])) hk)
omit hc in
theorem putN_mem:∀ (L:List (κ × Int)) (k:Int) (x:κ) {q:κ × Int},q ∈ putN c L k x→q.1 = x ∨ ∃ p ∈ L,p.1 = q.1
 | [],k,x,q,h => by
  obtain rfl:q = (x,k):=by simpa [putN] using h
  exact .inl rfl
 | p :: L,k,x,q,h => by
  unfold putN at h
  split at h
  ·rcases List.mem_cons.1 h with rfl|h
   ·exact .inl rfl
   ·exact .inr ⟨q,h,rfl⟩
  ·split at h
   ·rcases List.mem_cons.1 h with rfl|h
    ·exact .inr ⟨p,by simp,rfl⟩
    ·exact .inr ⟨q,by simp [h],rfl⟩
   ·rcases List.mem_cons.1 h with rfl|h
    ·exact .inr ⟨q,by simp,rfl⟩
    ·rcases putN_mem L k x h with h|⟨r,h1,h2⟩
     ·exact .inl h
     ·exact .inr ⟨r,by simp [h1],h2⟩
theorem putN_nf:∀ {L:List (κ × Int)} {k:Int} {x:κ},NfN c L→1 ≤ k→NfN c (putN c L k x)
 | [],k,x,_,hk => ⟨by simp [putN],fun q hq => by
   have:q = (x,k):=by simpa [putN] using hq
   rw [this];exact hk⟩
 | p :: L,k,x,h,hk => by
  have h1:=List.pairwise_cons.1 h.1
  have h2:=h.2 p (by simp)
  unfold putN
  split
  ·rename_i hlt
   refine ⟨List.pairwise_cons.2 ⟨fun q hq => ?_,h.1⟩,fun q hq => ?_⟩
   ·rcases List.mem_cons.1 hq with rfl|hq
    ·exact hlt
    ·exact hc.lt_tr hlt (h1.1 q hq)
   ·rcases List.mem_cons.1 hq with rfl|hq
    ·exact hk
    ·exact h.2 q hq
  ·split
   ·refine ⟨List.pairwise_cons.2 ⟨h1.1,h1.2⟩,fun q hq => ?_⟩
    rcases List.mem_cons.1 hq with rfl|hq
    ·show 1 ≤ p.2 + k;omega
    ·exact h.2 q (by simp [hq])
   ·rename_i n1 n2
    have ih:=putN_nf (x:=x) h.tail hk
    refine ⟨List.pairwise_cons.2 ⟨fun q hq => ?_,ih.1⟩,fun q hq => ?_⟩
    ·rcases putN_mem L k x hq with e|⟨r,hr,e⟩
     ·rw [e,hc.anti];omega
     ·rw [← e];exact h1.1 r hr
    ·rcases List.mem_cons.1 hq with rfl|hq
     ·exact h2
     ·exact ih.2 q hq
theorem IsN.put {L:List (κ × Int)} {M:List κ} (h:IsN c L M) {k:Int} {x:κ} (hk:1 ≤ k):IsN c (putN c L k x) (M ++ List.replicate k.toNat x) :=
 ⟨putN_nf hc h.1 hk,(putN_exp hc L k x h.1.2 hk).trans ((List.perm_append_right_iff _).2 h.2)⟩
theorem IsN.puts:∀ (P:List (κ × Int)) {L:List (κ × Int)} {M:List κ},IsN c L M→(∀ p ∈ P,1 ≤ p.2)→IsN c (P.foldl (fun s p => putN c s p.2 p.1) L) (M ++ expN P)
 | [],L,M,h,_ => by simpa [expN] using h
 | p :: P,L,M,h,hp => by
  have:=IsN.puts P (h.put hc (hp p (by simp)) (x:=p.1)) (fun q hq => hp q (by simp [hq]))
  rw [yY,← List.append_assoc]
  exact this
omit hc in
theorem rep_flat {β γ:Type} (n:Nat) (L:List β) (f:β→List γ):((List.replicate n L).flatten.flatMap f).Perm (L.flatMap fun b => (List.replicate n (f b)).flatten):=by
 induction L with
 | nil => simp
 | cons b L ih =>
  have key:∀ n,((List.replicate n (b :: L)).flatten.flatMap f).Perm ((List.replicate n (f b)).flatten ++ (List.replicate n L).flatten.flatMap f):=by
   intro n
   induction n with
   | zero => simp
   | succ n ih2 =>
    rw [List.replicate_succ,List.flatten_cons,List.flatMap_append,List.flatMap_cons,List.replicate_succ,List.flatten_cons,List.replicate_succ,List.flatten_cons,List.flatMap_append]
    refine ((List.perm_append_left_iff _).2 ih2).trans ?_
    rw [List.append_assoc,List.append_assoc]
    refine (List.perm_append_left_iff _).2 ?_
    rw [← List.append_assoc,← List.append_assoc]
    exact (List.perm_append_right_iff _).2 List.perm_append_comm
  refine (key n).trans ?_
  rw [List.flatMap_cons]
  exact (List.perm_append_left_iff _).2 ih
omit hc in
theorem rep_map {β γ:Type} (n m:Nat) (a:β) (f:β→γ):(List.replicate n (List.replicate m (f a))).flatten = List.replicate (n * m) (f a):=by
 induction n with
 | zero => simp
 | succ n ih => rw [List.replicate_succ,List.flatten_cons,ih,Nat.succ_mul,Nat.add_comm (n * m),List.replicate_append_replicate]
omit hc in
theorem exp_prod {α β:Type} (f:α→β→κ) (B:List (β × Int)) (hB:∀ q ∈ B,1 ≤ q.2):∀ (A:List (α × Int)),(∀ p ∈ A,1 ≤ p.2) →
  (expN (A.flatMap fun a => B.map fun b => (f a.1 b.1,a.2 * b.2))).Perm ((expN A).flatMap fun a => (expN B).map (f a))
 | [],_ => by simp [expN]
 | a :: A,hA => by
  have ih:=exp_prod f B hB A (fun p hp => hA p (by simp [hp]))
  have ha:=hA a (by simp)
  rw [List.flatMap_cons,qQ0,yY,List.flatMap_append]
  refine List.Perm.append ?_ ih
  have e1:(List.replicate a.2.toNat a.1).flatMap (fun x => (expN B).map (f x)) = ((List.replicate a.2.toNat (expN B)).flatten).flatMap (fun b => [f a.1 b]):=by
   rw [List.flatMap_replicate]
   generalize a.2.toNat = n
   induction n with
   | zero => simp
   | succ n ih => rw [List.replicate_succ,List.flatten_cons,List.replicate_succ,List.flatten_cons,List.flatMap_append,← ih];congr 1;simp [List.map_eq_flatMap]
  rw [e1]
  refine List.Perm.symm ((rep_flat _ _ _).trans ?_)
  clear ih e1
  have e2:∀ (B:List (β × Int)),(∀ q ∈ B,1 ≤ q.2)→((expN B).flatMap fun b => (List.replicate a.2.toNat [f a.1 b]).flatten) = expN (B.map fun b => (f a.1 b.1,a.2 * b.2)):=by
   intro B
   induction B with
   | nil => intro _;rfl
   | cons b B ih =>
    intro hB
    rw [yY,List.flatMap_append,ih (fun q hq => hB q (by simp [hq])),List.map_cons,yY]
    congr 1
    have hb:=hB b (by simp)
    rw [List.flatMap_replicate]
    have:(List.replicate a.2.toNat [f a.1 b.1]).flatten = List.replicate a.2.toNat (f a.1 b.1):=by simp
    rw [this,rep_map (a:=b.1) (f:=fun y => f a.1 y)]
    congr 1
    rw [Int.toNat_mul (by omega) (by omega),Nat.mul_comm]
  rw [e2 B hB]
omit hc in
theorem jC0 {α β:Type} {f g:α→List β}:∀ (l:List α),(∀ a ∈ l,(f a).Perm (g a))→(l.flatMap f).Perm (l.flatMap g)
 | [],_ => .refl _
 | a :: l,h => by
  rw [List.flatMap_cons,List.flatMap_cons]
  exact (h a (by simp)).append (jC0 l fun b hb => h b (by simp [hb]))
omit hc in
theorem perm_prod {α β γ:Type} {A A':List α} {B B':List β} (f:α→β→γ) (h1:A.Perm A') (h2:B.Perm B'):(A.flatMap fun a => B.map (f a)).Perm (A'.flatMap fun a => B'.map (f a)) :=
 (h1.flatMap_right _).trans (jC0 _ fun a _ => h2.map (f a))
def timesN {κ:Type} (c:κ→κ→Int) (f:κ→κ→κ) (A B:List (κ × Int)):List (κ × Int) :=
 (A.flatMap fun a => B.map fun b => (f a.1 b.1,a.2 * b.2)).foldl (fun s p => putN c s p.2 p.1) []
theorem IsN.times (f:κ→κ→κ) {A B:List (κ × Int)} {M N:List κ} (hA:IsN c A M) (hB:IsN c B N):IsN c (timesN c f A B) (M.flatMap fun a => N.map (f a)):=by
 have h:=IsN.puts hc (A.flatMap fun a => B.map fun b => (f a.1 b.1,a.2 * b.2)) (IsN.nil (c:=c)) (fun p hp => by
  obtain ⟨a,ha,hp⟩:=List.mem_flatMap.1 hp
  obtain ⟨b,hb,rfl⟩:=List.mem_map.1 hp
  have h1:=hA.1.2 a ha
  have h2:=hB.1.2 b hb
  exact Int.mul_pos h1 h2)
 rw [List.nil_append] at h
 exact h.perm ((exp_prod f B hB.1.2 A hA.1.2).trans (perm_prod f hA.2 hB.2))
omit hc
theorem putN_skip {k:Int} {x:κ} (M:List (κ × Int)):∀ {L:List (κ × Int)},(∀ q ∈ L,0 < c x q.1)→putN c (L ++ M) k x = L ++ putN c M k x
 | [],_ => rfl
 | p :: L,h => by
  have h1:=h p (by simp)
  rw [List.cons_append]
  conv => lhs;unfold putN
  rw [if_neg (by omega),if_neg (by omega),putN_skip M (fun q hq => h q (by simp [hq]))]
  rfl
theorem IsN.cnt {L:List (κ × Int)} {M:List κ} (h:IsN c L M):∀ p ∈ L,1 ≤ p.2∧p.2 ≤ M.length:=fun p hp => by
 have h1:=h.1.2 p hp
 refine ⟨h1,?_⟩
 have hl:=h.2.length_eq
 obtain ⟨s,t,rfl⟩:=List.append_of_mem hp
 rw [qQ0,yY,List.length_append,List.length_append,List.length_replicate] at hl
 omega
theorem IsN.len {L:List (κ × Int)} {M:List κ} (h:IsN c L M):L.length ≤ M.length:=by
 rw [← h.2.length_eq]
 have key:∀ (L:List (κ × Int)),(∀ p ∈ L,1 ≤ p.2)→L.length ≤ (expN L).length:=by
  intro L
  induction L with
  | nil => intro _;exact Nat.le_refl _
  | cons p L ih =>
   intro hp
   have h1:=hp p (by simp)
   have h2:=ih (fun q hq => hp q (by simp [hq]))
   rw [yY,List.length_append,List.length_replicate,List.length_cons];omega
 exact key L h.1.2
theorem IsN.key {L:List (κ × Int)} {M:List κ} (h:IsN c L M):∀ p ∈ L,p.1 ∈ M:=fun p hp => h.2.mem_iff.1 (mem_expN hp (h.1.2 p hp))
def stepN (c:κ→κ→Int) (out:List (κ × Int)) (x:κ):List (κ × Int):=match out.getLast? with
 | some p => if c p.1 x = 0 then out.dropLast ++ [(p.1,p.2 + 1)] else out ++ [(x,1)]
 | none => [(x,1)]
def runsN (c:κ→κ→Int) (M:List κ):List (κ × Int):=M.foldl (stepN c) []
theorem stepN_eq {c:κ→κ→Int} (out:List (κ × Int)) (p:κ × Int) (x:κ) (h:c p.1 x = 0):stepN c (out ++ [p]) x = out ++ [(p.1,p.2 + 1)]:=by simp [stepN,h]
theorem stepN_ne {c:κ→κ→Int} (out:List (κ × Int)) (p:κ × Int) (x:κ) (h:¬ c p.1 x = 0):stepN c (out ++ [p]) x = out ++ [p] ++ [(x,1)]:=by simp [stepN,h]
theorem runsN_snoc (c:κ→κ→Int) (M:List κ) (x:κ):runsN c (M ++ [x]) = stepN c (runsN c M) x:=by unfold runsN;rw [List.foldl_append];rfl
theorem snocN {α:Type} {l:List α} (h:l ≠ []):∃ p z,l = p ++ [z]:=⟨l.dropLast,l.getLast h,(List.dropLast_concat_getLast h).symm⟩
include hc
theorem runsN_is:∀ (n:Nat) (M:List κ),M.length = n→M.Pairwise (fun a b => c a b ≤ 0)→IsN c (runsN c M) M
 | 0,M,hn,_ => by
  obtain rfl:=List.eq_nil_of_length_eq_zero hn
  exact IsN.nil
 | n + 1,M,hn,hM => by
  obtain ⟨M,x,rfl⟩:=snocN (l:=M) (by rintro rfl;cases hn)
  rw [List.pairwise_append] at hM
  have ih:=runsN_is n M (by simpa using hn) hM.1
  have hx:∀ a ∈ M,c a x ≤ 0:=fun a ha => hM.2.2 a ha x (by simp)
  rw [runsN_snoc]
  by_cases h0:runsN c M = []
  ·rw [h0] at ih ⊢
   obtain rfl:M = []:=List.nil_perm.1 ih.2
   exact ⟨⟨by simp [stepN],fun q hq => by
    have:q = (x,1):=by simpa [stepN] using hq
    rw [this];exact Int.le_refl _⟩,by simp [stepN,expN]⟩
  ·obtain ⟨out,p,e⟩:=snocN h0
   rw [e] at ih ⊢
   obtain ⟨⟨i1,i2⟩,i3⟩:=ih
   rw [List.pairwise_append] at i1
   have hp1:=i2 p (by simp)
   have hpx:=hx p.1 (i3.mem_iff.1 (mem_expN (by simp) hp1))
   by_cases hq:c p.1 x = 0
   ·rw [stepN_eq _ _ _ hq]
    refine ⟨⟨List.pairwise_append.2 ⟨i1.1,by simp,fun a ha b hb => ?_⟩,fun q hq => ?_⟩,?_⟩
    ·obtain rfl:=List.mem_singleton.1 hb
     exact i1.2.2 a ha p (by simp)
    ·rcases List.mem_append.1 hq with hq|hq
     ·exact i2 q (by simp [hq])
     ·obtain rfl:=List.mem_singleton.1 hq
      show 1 ≤ p.2 + 1;omega
    ·obtain rfl:=hc.zero _ _ hq
     rw [qQ0] at i3 ⊢
     have:expN [(p.1,p.2 + 1)] = expN [p] ++ [p.1]:=by
      show List.replicate (p.2 + 1).toNat p.1 ++ [] = (List.replicate p.2.toNat p.1 ++ []) ++ [p.1]
      rw [show (p.2 + 1).toNat = p.2.toNat + 1 by omega,List.replicate_succ'];simp
     rw [this,← List.append_assoc]
     exact (List.perm_append_right_iff _).2 i3
   ·rw [stepN_ne _ _ _ hq]
    refine ⟨⟨List.pairwise_append.2 ⟨List.pairwise_append.2 i1,by simp,fun a ha b hb => ?_⟩,fun q hq => ?_⟩,?_⟩
    ·obtain rfl:=List.mem_singleton.1 hb
     show c a.1 x < 0
     have hpx':c p.1 x < 0:=by omega
     rcases List.mem_append.1 ha with ha|ha
     ·exact hc.lt_tr (i1.2.2 a ha p (by simp)) hpx'
     ·obtain rfl:=List.mem_singleton.1 ha
      exact hpx'
    ·rcases List.mem_append.1 hq with hq|hq
     ·exact i2 q hq
     ·obtain rfl:=List.mem_singleton.1 hq
      exact Int.le_refl _
    ·rw [qQ0]
     exact (List.perm_append_right_iff _).2 i3
theorem runsN_sorted {S M:List κ} (hp:S.Perm M) (hs:S.Pairwise (fun a b => c a b ≤ 0)):IsN c (runsN c S) M:=(runsN_is hc _ S rfl hs).perm hp
end
end
section
abbrev Spl:=List (List Int) × List (List Int)
def pairC {α β:Type} (c:α→α→Int) (d:β→β→Int) (a b:α × β):Int:=if c a.1 b.1 = 0 then d a.2 b.2 else c a.1 b.1
theorem pairC_cmp {α β:Type} {c:α→α→Int} {d:β→β→Int} (hc:Cmp c) (hd:Cmp d):Cmp (pairC c d) where
 zero:=by
  intro a b h
  unfold pairC at h
  split at h
  ·rename_i e;exact Prod.ext (hc.zero _ _ e) (hd.zero _ _ h)
  ·omega
 refl:=by intro a;unfold pairC;rw [if_pos (hc.refl _)];exact hd.refl _
 anti:=by
  intro a b
  unfold pairC
  by_cases e:c a.1 b.1 = 0
  ·rw [if_pos e,if_pos (hc.eq_swap e)];exact hd.anti _ _
  ·have e2:c b.1 a.1 ≠ 0:=fun h => e (hc.eq_swap h)
   rw [if_neg e,if_neg e2];exact hc.anti _ _
 trans:=by
  intro a b d' h1 h2
  unfold pairC at h1 h2 ⊢
  by_cases e1:c a.1 b.1 = 0
  ·rw [if_pos e1] at h1
   have eab:=hc.zero _ _ e1
   by_cases e2:c b.1 d'.1 = 0
   ·rw [if_pos e2] at h2
    rw [eab,if_pos e2];exact hd.trans _ _ _ h1 h2
   ·rw [if_neg e2] at h2
    rw [eab,if_neg e2];exact h2
  ·rw [if_neg e1] at h1
   by_cases e2:c b.1 d'.1 = 0
   ·rw [← hc.zero _ _ e2,if_neg e1];exact h1
   ·rw [if_neg e2] at h2
    have:=hc.lt_tr (a:=a.1) (b:=b.1) (d:=d'.1) (by omega) (by omega)
    rw [if_neg (by omega)];omega
theorem cmpN_cmp:Cmp cmpN:=thenC_cmp (lexC_cmp yV)
def cmpS:Spl→Spl→Int:=pairC cmpF cmpN
theorem xD:Cmp cmpS:=pairC_cmp yX cmpN_cmp
def catS (s c:Spl):Spl:=(s.1 ++ c.1,s.2 ++ c.2)
def mulS (s c:Spl):Spl:=(mulF s.1 c.1,mulF s.2 c.2)
def nrmS (s:Spl):Spl:=(sortC cmpT s.1,sortC cmpT s.2)
def prodS (Ls:List (List Spl)):List Spl:=Ls.foldl (fun A L => A.flatMap fun s => L.map (catS s)) [([],[])]
theorem sort_sort (f g:List (List Int)):sortC cmpT (sortC cmpT f ++ sortC cmpT g) = sortC cmpT (f ++ g) :=
 jV0 yV ((yQ _).append (yQ _))
theorem nrm_cat (s c:Spl):nrmS (catS s c) = mulS (nrmS s) (nrmS c):=by
 unfold nrmS catS mulS mulF
 simp only [sort_sort]
theorem nrm_flat (A L:List Spl):(A.flatMap fun s => L.map (catS s)).map nrmS = (A.map nrmS).flatMap fun s => (L.map nrmS).map (mulS s):=by
 induction A with
 | nil => rfl
 | cons a A ih =>
  rw [List.flatMap_cons,List.map_append,ih,List.map_cons,List.flatMap_cons]
  congr 1
  rw [List.map_map,List.map_map]
  exact List.map_congr_left fun c _ => nrm_cat a c
theorem nrm_comm (a b d:Spl):nrmS (catS (catS a b) d) = nrmS (catS (catS a d) b):=by
 unfold nrmS catS
 refine Prod.ext (jV0 yV ?_) (jV0 yV ?_)
 all_goals
  simp only [List.append_assoc]
  exact (List.perm_append_left_iff _).2 List.perm_append_comm
theorem flat_comm {α β γ:Type} (f:α→β→γ):∀ (A:List α) (B:List β),(A.flatMap fun a => B.map (f a)).Perm (B.flatMap fun b => A.map fun a => f a b)
 | [],B => by simp
 | a :: A,B => by
  rw [List.flatMap_cons]
  refine ((List.perm_append_left_iff _).2 (flat_comm f A B)).trans ?_
  clear flat_comm
  induction B with
  | nil => simp
  | cons b B ih =>
   simp only [List.map_cons,List.flatMap_cons,List.cons_append]
   refine List.Perm.cons _ ?_
   refine List.Perm.trans ?_ ((List.perm_append_left_iff _).2 ih)
   rw [← List.append_assoc,← List.append_assoc]
   exact (List.perm_append_right_iff _).2 List.perm_append_comm
def foldS (A:List Spl) (Ls:List (List Spl)):List Spl:=Ls.foldl (fun A L => A.flatMap fun s => L.map (catS s)) A
theorem foldS_perm {A A':List Spl}:∀ (Ls:List (List Spl)),(A.map nrmS).Perm (A'.map nrmS)→((foldS A Ls).map nrmS).Perm ((foldS A' Ls).map nrmS)
 | [],h => h
 | L :: Ls,h => by
  refine foldS_perm Ls (A:=A.flatMap fun s => L.map (catS s)) (A':=A'.flatMap fun s => L.map (catS s)) ?_
  rw [nrm_flat,nrm_flat]
  exact h.flatMap_right _
theorem flat2 (A L M:List Spl):((A.flatMap fun s => L.map (catS s)).flatMap fun s => M.map (catS s)) = A.flatMap fun a => L.flatMap fun b => M.map fun d => catS (catS a b) d:=by
 rw [List.flatMap_assoc]
 congr 1;funext a
 rw [List.flatMap_map]
theorem prodS_perm {Ls Ls':List (List Spl)} (h:Ls.Perm Ls'):∀ A:List Spl,((foldS A Ls).map nrmS).Perm ((foldS A Ls').map nrmS):=by
 induction h with
 | nil => intro A;exact List.Perm.refl _
 | cons L _ ih => intro A;exact ih _
 | swap L M Ls =>
  intro A
  refine foldS_perm Ls (A:=(A.flatMap fun s => M.map (catS s)).flatMap fun s => L.map (catS s)) (A':=(A.flatMap fun s => L.map (catS s)).flatMap fun s => M.map (catS s)) ?_
  rw [flat2,flat2,List.map_flatMap,List.map_flatMap]
  refine jC0 _ fun a _ => ?_
  rw [List.map_flatMap,List.map_flatMap]
  have e:∀ (M L:List Spl),(M.flatMap fun b => (L.map fun d => catS (catS a b) d).map nrmS) = M.flatMap fun b => L.map fun d => nrmS (catS (catS a b) d):=fun M L => by
   congr 1;funext b;rw [List.map_map];rfl
  rw [e,e]
  refine (flat_comm _ M L).trans ?_
  refine jC0 _ fun b _ => ?_
  rw [List.map_congr_left fun d _ => nrm_comm a d b]
 | trans _ _ h1 h2 => intro A;exact (h1 A).trans (h2 A)
def splitF:Nat→List Int→List Spl
 | 0,_ => []
 | n + 1,t => ((prodS ((brs t).map (splitF n))).map fun s => (s.1,[canon (qC s.2)])) ++ [([canon t],[])]
def split (t:List Int):List Spl:=splitF t.length t
theorem splitF_eq:∀ (f:Nat) {t:List Int},qU t→t.length ≤ f→splitF f t = split t:=by
 have key:∀ (n f g:Nat) (t:List Int),qU t→t.length ≤ n→t.length ≤ f→t.length ≤ g→splitF f t = splitF g t:=by
  intro n
  induction n with
  | zero => intro f g t h hn;have:=h.pos;omega
  | succ n ih =>
   intro f g t h hn hf hg
   have hp:=h.pos
   obtain ⟨f,rfl⟩:∃ f',f = f' + 1:=⟨f - 1,by omega⟩
   obtain ⟨g,rfl⟩:∃ g',g = g' + 1:=⟨g - 1,by omega⟩
   simp only [splitF]
   congr 3
   apply List.map_congr_left
   intro b hb
   have:=xS h b hb
   exact ih f g b (yB h b hb) (by omega) (by omega) (by omega)
 intro f t h hf
 exact key t.length f t.length t h (Nat.le_refl _) hf (Nat.le_refl _)
theorem jU0 {t:List Int} (h:qU t):split t = ((prodS ((brs t).map split)).map fun s => (s.1,[canon (qC s.2)])) ++ [([canon t],[])]:=by
 have hp:=h.pos
 obtain ⟨n,hn⟩:∃ n,t.length = n + 1:=⟨t.length - 1,by omega⟩
 conv => lhs;unfold split;rw [hn];simp only [splitF]
 congr 3
 apply List.map_congr_left
 intro b hb
 have:=xS h b hb
 exact splitF_eq n (yB h b hb) (by omega)
def xY (n:Nat) (s:Spl):Prop:=(∀ t ∈ s.1 ++ s.2,qU t∧canon t = t)∧qX s.1 + qX s.2 = n
theorem jF0 {α:Type} (f:α→List Spl) (m:α→Nat):∀ (bs:List α) (A:List Spl) (n:Nat),(∀ b ∈ bs,∀ s ∈ f b,xY (m b) s)→(∀ s ∈ A,xY n s)→∀ s ∈ foldS A (bs.map f),xY (n + (bs.map m).sum) s
 | [],A,n,_,hA => by simpa [foldS] using hA
 | b :: bs,A,n,hb,hA => by
  intro s hs
  have:=jF0 f m bs (A.flatMap fun s => (f b).map (catS s)) (n + m b) (fun x hx => hb x (by simp [hx])) (fun s hs => by
   obtain ⟨a,ha,hs⟩:=List.mem_flatMap.1 hs
   obtain ⟨d,hd,rfl⟩:=List.mem_map.1 hs
   obtain ⟨a1,a2⟩:=hA a ha
   obtain ⟨d1,d2⟩:=hb b (by simp) d hd
   refine ⟨fun t ht => ?_,?_⟩
   ·unfold catS at ht
    simp only [List.mem_append] at ht
    rcases ht with (ht|ht)|ht|ht
    ·exact a1 t (by simp [ht])
    ·exact d1 t (by simp [ht])
    ·exact a1 t (by simp [ht])
    ·exact d1 t (by simp [ht])
   ·unfold catS
    simp only [vG];omega) s hs
  rw [List.map_cons,List.sum_cons,← Nat.add_assoc]
  exact this
theorem vP:∀ (n:Nat) {t:List Int},t.length ≤ n→qU t→∀ s ∈ split t,xY t.length s
 | 0,t,hn,h => by have:=h.pos;omega
 | n + 1,t,hn,h => by
  intro s hs
  rw [jU0 h] at hs
  rcases List.mem_append.1 hs with hs|hs
  ·obtain ⟨a,ha,rfl⟩:=List.mem_map.1 hs
   have hg:=jF0 split List.length (brs t) [([],[])] 0 (fun b hb => vP n (by have:=xS h b hb;omega) (yB h b hb)) (fun s hs => by
    obtain rfl:=List.mem_singleton.1 hs
    exact ⟨by simp,rfl⟩) a ha
   rw [Nat.zero_add,show ((brs t).map List.length).sum = qX (brs t) from rfl] at hg
   have hb:=wK h
   obtain ⟨g1,g2⟩:=hg
   have hl:qU (qC a.2):=wM fun b hb => (g1 b (by simp [hb])).1
   refine ⟨fun u hu => ?_,?_⟩
   ·simp only [List.mem_append,List.mem_singleton] at hu
    rcases hu with hu|rfl
    ·exact g1 u (by simp [hu])
    ·exact ⟨vQ hl,qS0 hl⟩
   ·show qX a.1 + qX [canon (qC a.2)] = t.length
    have:qX [canon (qC a.2)] = qX a.2 + 1:=by
     show (canon (qC a.2)).length + 0 = _
     rw [qJ0 hl,kY]
    omega
  ·obtain rfl:=List.mem_singleton.1 hs
   refine ⟨fun u hu => ?_,?_⟩
   ·simp only [List.append_nil,List.mem_singleton] at hu
    rw [hu];exact ⟨vQ h,qS0 h⟩
   ·show (canon t).length + 0 + 0 = _
    rw [qJ0 h];rfl
theorem canon_root {bs cs:List (List Int)} (h:∀ b ∈ bs,qU b) (hp:bs.Perm cs):canon (qC bs) = canon (qC cs):=by
 have h':∀ b ∈ cs,qU b:=fun b hb => h b (hp.mem_iff.2 hb)
 rw [kO (wM h),kO (wM h'),yV0 h,yV0 h']
 rw [jV0 cmpD_cmp (hp.map canon)]
def rootS (s:Spl):Spl:=(s.1,[canon (qC s.2)])
theorem nrm_root {s:Spl} (h:∀ t ∈ s.1 ++ s.2,qU t):nrmS (rootS s) = rootS (nrmS s):=by
 unfold nrmS rootS
 refine Prod.ext rfl ?_
 show sortC cmpT [canon (qC s.2)] = [canon (qC (sortC cmpT s.2))]
 rw [canon_root (bs:=s.2) (fun b hb => h b (by simp [hb])) (yQ _).symm]
 rfl
theorem nrm_roots {A B:List Spl} (hA:∀ s ∈ A,∀ t ∈ s.1 ++ s.2,qU t) (hB:∀ s ∈ B,∀ t ∈ s.1 ++ s.2,qU t) (h:(A.map nrmS).Perm (B.map nrmS)):((A.map rootS).map nrmS).Perm ((B.map rootS).map nrmS):=by
 have e:∀ {A:List Spl},(∀ s ∈ A,∀ t ∈ s.1 ++ s.2,qU t)→(A.map rootS).map nrmS = (A.map nrmS).map rootS:=fun {A} hA => by
  rw [List.map_map,List.map_map]
  exact List.map_congr_left fun s hs => nrm_root (hA s hs)
 rw [e hA,e hB]
 exact h.map _
theorem prod_lev {bs:List (List Int)} (h:∀ b ∈ bs,qU b):∀ s ∈ prodS (bs.map split),∀ t ∈ s.1 ++ s.2,qU t:=fun s hs t ht =>
 ((jF0 split List.length bs [([],[])] 0 (fun b hb => vP _ (Nat.le_refl _) (h b hb)) (fun s hs => by
   obtain rfl:=List.mem_singleton.1 hs
   exact ⟨by simp,rfl⟩) s hs).1 t ht).1
def gathS (L:List Spl):List (Spl × Int):=runsN cmpS (sortC cmpS (L.map nrmS))
theorem yC (L:List Spl):IsN cmpS (gathS L) (L.map nrmS):=runsN_sorted xD (yQ _) (vH xD _)
def forS (f:List Int→List (Spl × Int)) (bs:List (List Int)):List (Spl × Int):=bs.foldl (fun out b => timesN cmpS mulS out (f b)) [(([],[]),1)]
def putsS (t:List Int) (below:List (Spl × Int)):List (Spl × Int):=below.foldl (fun s p => putN cmpS s p.2 (rootS p.1)) [(([t],[]),1)]
theorem forS_is (f:List Int→List (Spl × Int)) (g:List Int→List Spl):∀ (bs:List (List Int)),(∀ b ∈ bs,IsN cmpS (f b) ((g b).map nrmS))→∀ (L:List (Spl × Int)) (A:List Spl),IsN cmpS L (A.map nrmS) →
  IsN cmpS (bs.foldl (fun out b => timesN cmpS mulS out (f b)) L) ((foldS A (bs.map g)).map nrmS)
 | [],_,L,A,h => h
 | b :: bs,hb,L,A,h => by
  refine forS_is f g bs (fun x hx => hb x (by simp [hx])) _ (A.flatMap fun s => (g b).map (catS s)) ?_
  rw [nrm_flat]
  exact IsN.times xD mulS h (hb b (by simp))
theorem one_is:IsN cmpS [((([],[]):Spl),1)] ([([],[])].map nrmS):=⟨⟨by simp,by simp⟩,List.Perm.refl _⟩
theorem nrm_one {t:List Int}:nrmS ([t],[]) = ([t],[]):=rfl
theorem spec_tree {t:List Int} (h:qU t) (hc:canon t = t) (f:List Int→List (Spl × Int)) (hf:∀ b ∈ brs t,IsN cmpS (f b) ((split b).map nrmS)):putsS t (forS f (sortC cmpT (brs t))) = gathS (split t):=by
 refine IsN.ext xD (M:=[nrmS ([t],[])] ++ ((prodS ((sortC cmpT (brs t)).map split)).map nrmS).map rootS) ?_ (yC (split t)) ?_
 ·have h1:=forS_is f split (sortC cmpT (brs t)) (fun b hb => hf b (xC.1 hb)) _ _ one_is
  unfold putsS
  have h2:=IsN.puts xD ((forS f (sortC cmpT (brs t))).map fun p => (rootS p.1,p.2)) (L:=[(([t],[]),1)]) (M:=[nrmS ([t],[])]) ⟨⟨by simp,by simp⟩,by rw [nrm_one];exact List.Perm.refl _⟩ (fun p hp => by
   obtain ⟨q,hq,rfl⟩:=List.mem_map.1 hp
   exact h1.1.2 q hq)
  rw [List.foldl_map] at h2
  refine h2.perm ((List.perm_append_left_iff _).2 ?_)
  have e:∀ L:List (Spl × Int),expN (L.map fun p => (rootS p.1,p.2)) = (expN L).map rootS:=fun L => by
   unfold expN
   rw [List.flatMap_map,List.map_flatMap]
   congr 1;funext p;simp
  rw [e]
  exact h1.2.map rootS
 ·have hb:=fun b hb => yB h b hb
  have hs:∀ b ∈ sortC cmpT (brs t),qU b:=fun b hb' => hb b (xC.1 hb')
  rw [jU0 h,List.map_append,hc]
  refine List.perm_append_comm.trans ?_
  refine List.Perm.append ?_ (List.Perm.refl _)
  have e:((prodS ((sortC cmpT (brs t)).map split)).map nrmS).map rootS = ((prodS ((sortC cmpT (brs t)).map split)).map rootS).map nrmS:=by
   rw [List.map_map,List.map_map]
   exact List.map_congr_left fun s hs' => (nrm_root (prod_lev hs s hs')).symm
  rw [e]
  exact nrm_roots (prod_lev hs) (prod_lev hb) (prodS_perm ((yQ (brs t)).map split) _)
theorem spec_forest (bs:List (List Int)) (f:List Int→List (Spl × Int)) (hf:∀ b ∈ bs,f b = gathS (split b)):forS f bs = gathS (prodS (bs.map split)) :=
 IsN.ext xD (forS_is f split bs (fun b hb => by rw [hf b hb];exact yC _) _ _ one_is) (yC _) (List.Perm.refl _)
end
section
theorem yA0 (f:List (List Int)) (hl:f.length ≤ 1000) (hs:∀ b ∈ f,b.length ≤ 1000):AFn Tryz.prog 67 [eLL f] (· = [.own 1 (f.map eL) false]):=by
 refine AFn.of_runs (qQ 21) Tryz.func67 rfl rfl rfl gz ?_
 have hres:Tryz.f67.results.toList = [.tmp 2]:=rfl
 have hrts:Tryz.f67.resultTypes.toList = [36]:=rfl
 simp only [qV,qT,eL,eI,eLL,eB,Nat.zero_add,Nat.reduceAdd]
 intro M
 refine qJ.of ?_
 refine gw31 ?_
 refine qJ.loop (β:=Nat) (γ:=Unit) (fun i => ⟨[(0,.c (.val (.sl 1 (f.map eL)))),(3,.c (.own 3 (f.take i).length)),(4,.c (.val (.int i)))],[(3,.row 1 ((f.take i).map eL) false)]⟩) (fun i => i ≤ f.length) (fun i => f.length - i)
  (fun _ => ⟨[(3,.c (.own 3 f.length))],[(3,.row 1 (f.map eL) false)]⟩) (fun _ => True) 0 (Nat.zero_le _) ?_ ?_ ?_
 ·exact gw32
 ·intro i hi
  have hi:i ≤ f.length:=hi
  have hw:=qB (n:=i) (by omega)
  by_cases h:i < f.length
  ·have i1:((i:Int) < (f.length:Int)) = True:=eq_true (by omega)
   have i2:((0:Int) ≤ (i:Int)) = True:=eq_true (by omega)
   obtain ⟨t,ht⟩:∃ t,t = f[i]:=⟨_,rfl⟩
   have hg:(f.map eL)[i]? = some [.sl 1 (t.map eI)]:=by rw [qD h,ht];rfl
   have htl:t.length ≤ 1000:=hs t (by rw [ht];exact List.getElem_mem h)
   have how:=a_l01Own t (by omega)
   simp only [eL] at how
   have htk:f.take (i + 1) = f.take i ++ [t]:=by rw [ht];exact List.take_succ_eq_append_getElem h
   have hil:(f.take i).length = i:=by rw [List.length_take];omega
   have q1:=jJ (n:=(f.take i).length + 1) (by omega)
   have q2:=qP (n:=(f.take i).length + 1) (c:=24) (by omega) (by omega)
   refine gw33 (Y6 i1 i2 hg hw q1 q2) ?_
   refine qY.on (i + 1) ⟨h,by omega⟩ ?_
   rw [htk]
   exact gw34
  ·have i1:((i:Int) < (f.length:Int)) = False:=eq_false (by omega)
   obtain rfl:i = f.length:=by omega
   rw [List.take_length]
   refine gw35 i1 ?_
   refine qY.out () trivial ?_
   exact gw7 Y0
 ·rintro _ _
  refine gw36 ?_
  exact gw2
end
section
theorem sortC_take_succ' {c:List Int→List Int→Int} {t:List (List Int)} (k:Nat) (h:k < t.length):sortC c (t.take (k + 1)) = ins c t[k] (sortC c (t.take k)):=by
 rw [List.take_succ_eq_append_getElem h,sortC_snoc]
theorem own_step {W:World} {ops:Array Oper} {o:Oper} {a:Act} {K:Act→World→Prop} {Q:Exit→Act→World→Prop} {E:Prop} (hgd:o.guard = none) (args:Array Operand) (ts:Array TypeId)
  (ho:o.op = .call { callee:=.value (.func 133),args:=args,argTypes:=ts }) (v:Value) (x:List Int) (hv:args.map a.eval = #[v]) (wb:World) (hW:W.heap = wb.heap) (hr:Rd (RS RI) wb [v] x) (hxl:x.length ≤ 1000000000)
  (h:∀ ou cu w2,Own (RS RI) wb.heap.size w2.heap.size w2 [.slice ou x.length cu] x→Below wb.heap.size W w2→wb.heap.size ≤ w2.heap.size→K (a.put o.dst (.slice ou x.length cu)) w2) :
  if Region.wanted o (yielded ops a.tmps) = true then Oper.wp Tryz.prog o a W K Q else E:=by
 refine step_call hgd 133 args ts ho (enters (P:=Tryz.prog) (f:=133) Tryz.func133 (by kernel_rfl) rfl) #[v] hv ?_
 refine (kC0 v x W (hr.of_heap hW) hxl).mono ?_
 rintro e w2 ⟨u,rfl,o2,b2⟩
 obtain ⟨ou,cu,rfl,_⟩:=o2.val
 rw [hW] at o2 b2
 exact ⟨_,rfl,h ou cu w2 o2 b2 (by have:=b2.size;rw [hW] at this;exact this)⟩
theorem c_spec_l03Sort (v:Value) (bs:List (List Int)) (w:World) (h:Rd (RS (RS RI)) w [v] bs) (hsz:bs.length ≤ 1000000) (hsl:∀ b ∈ bs,b.length ≤ 1000000000) :
  Calls Tryz.prog 187 #[v] w (RetO (RS (RS RI)) w (forest bs)):=by
 obtain ⟨oa,cap,L⟩:=h.lists
 obtain rfl:=L.val
 have m1:=L.le;have m2:=L.capLe
 have HL:=Lib.hid L
 have HS:=Lib.hid hsl
 have EGL:=Lib.hid (enters (P:=Tryz.prog) (f:=133) Tryz.func133 (by kernel_rfl) rfl)
 clear L h hsl
 go_enter Tryz.func187,Tryz.ntmps187
 go_wp2_with fail
 go_loopw [3,4] (fun o i wr => ∃ (k:Nat) (ys:List (List Int)),k ≤ bs.length∧i = .int .i64 k∧Hid (ys = sortC cmpT (bs.take k))∧Hid (ys.length = k)∧(∃ g cap,o = .slice (some ⟨g,0,none⟩) ys.length cap)∧Hid (Own (RS (RS RI)) w.heap.size wr.heap.size wr [o] ys)∧Below w.heap.size w wr) (fun _ i _ => bs.length - (intOf i).toNat)
 case atStart => exact ⟨0,[],Nat.zero_le _,rfl,Lib.hid (by simp [sortC]),Lib.hid rfl,⟨_,_,rfl⟩,Lib.hid ((Own.empty (R:=RS RI) (w:=w) 24 w.heap.size (Nat.le_refl _)).top _ (by simp)),(Below.refl _ _).alloc (Nat.le_refl _) _⟩
 case round =>
  obtain ⟨k,ys,hk,rfl,hys,Hyl,⟨g0,cap0,rfl⟩,hown,hbel⟩:=hrel
  have hsz2:=hbel.size
  obtain ⟨wo,hwo⟩:∃ wo:World,wo = wr:=⟨_,rfl⟩
  subst hwo
  by_cases hlt:k < bs.length
  ·obtain ⟨b,off,rfl,hb,hc⟩:=HL.out.get hlt
   obtain ⟨oi,ci,g1,hrd,q1,q2⟩:=hc k hlt
   have g2:wo.cell? ⟨b,off + k,none⟩ = some (.slice oi bs[k].length ci):=(hbel.cell (p:=⟨b,off + k,none⟩) hb).trans g1
   have hst:=sortC_take_succ' (c:=cmpT) k hlt
   rw [← hys.out] at hst
   obtain ⟨x,hx⟩:∃ x,x = bs[k]:=⟨_,rfl⟩
   have hxl:x.length ≤ 1000000000:=by rw [hx];exact HS.out _ (List.getElem_mem hlt)
   rw [← hx] at g2 hrd q1 hst
   have HST:=Lib.hid hst
   have HR:=Lib.hid (hrd.below hbel (Nat.le_refl _))
   have HOO:Hid (∀ (W' w2:World),W'.heap = wo.heap→Below wo.heap.size W' w2→Own (RS (RS RI)) w.heap.size wo.heap.size w2 [.slice (some ⟨g0,0,none⟩) ys.length cap0] ys):=Lib.hid (fun W' w2 e b => (hown.out.of_heap e).below b (Nat.le_refl _))
   have ik1:(0:Int) ≤ (k:Int):=by omega
   have ik2:(k:Int) < (bs.length:Int):=by omega
   clear hst hc g1 hx hrd
   go_wp2_with fail
   go_loopw [5] (fun i wr => ∃ (j:Nat),j ≤ ys.length∧i = .int .i64 j∧Hid (∀ q (h:q < ys.length),q < j→¬ cmpT x ys[q] < 0)∧∃ n,wr = wo.drewN n) (fun i _ => ys.length - (intOf i).toNat)
   case atStart => exact ⟨0,Nat.zero_le _,rfl,Lib.hid (fun q _ h => by omega),0,rfl⟩
   case round =>
    obtain ⟨j,hj,rfl,hall,nd,rfl⟩:=hrel
    have HO3:Hid (Own (RS (RS RI)) w.heap.size wo.heap.size (wo.drewN nd) [.slice (some ⟨g0,0,none⟩) ys.length cap0] ys):=hown.out.of_heap rfl
    have g3:(wo.drewN nd).cell? ⟨b,off + k,none⟩ = some (.slice oi x.length ci):=g2
    have hyb:ys.length ≤ 1000000:=by rw [Hyl.out];omega
    have hle4:=hown.out.val
    obtain ⟨_,_,ev,le4,_⟩:=hle4
    simp only [Value.slice.injEq,true_and] at ev
    obtain ⟨rfl,rfl⟩:=ev
    by_cases hjl:j < ys.length
    ·obtain ⟨g',cap',h0,hv,q1',q2',hg1',hg2',hcell,hel⟩:=HO3.out.elem j hjl
     simp only [Value.slice.injEq,true_and] at hv
     obtain ⟨e1,e2⟩:=hv
     simp only [Option.some.injEq,Addr.mk.injEq,and_true] at e1
     subst e1;subst e2
     obtain ⟨oj,cj,rfl,_⟩:=hel.val
     have hls:∀ a,Calls Tryz.prog 129 #[.slice oi x.length ci,.slice oj ys[j].length cj] (wo.drewN (nd + a)) (RetQ (wo.drewN (nd + a)) (.bool (decide (cmpT x ys[j] < 0)))):=fun a => xG0 _ _ x ys[j] _ (HR.out.of_heap rfl) (hel.rd.of_heap rfl)
     obtain ⟨yl,hyl'⟩:∃ yl,yl = ys[j].length:=⟨_,rfl⟩
     rw [← hyl'] at hls hcell
     replace hcell:wo.cell? ⟨g0,j,none⟩ = some (.slice oj yl cj):=hcell
     have ij1:(0:Int) ≤ (j:Int):=by omega
     have ij2:(j:Int) < (ys.length:Int):=by omega
     have ij3:decide ((j:Int) < (ys.length:Int)) = true:=decide_eq_true ij2
     clear hel hyl'
     by_cases hle:cmpT x ys[j] < 0
     ·have hd:decide (cmpT x ys[j] < 0) = true:=decide_eq_true hle
      rw [hd] at hls
      have HLS:=Lib.hid hls
      have HE:Hid (ins cmpT x ys = ys.take j ++ x :: ys.drop j):=Lib.hid (ins_at hj hall.out (fun _ => hle))
      clear hd hle hls
      go_wp2_with fail
      go_quiet ((go_at_call 129;exact Calls.qQ' (HLS.out _)))
      clear HLS hcell
      have hcj:¬ cap0 = j:=by omega
      go_wp2_with fail
      go_region_law (first
       | (refine own_step rfl _ _ rfl (.slice oi x.length ci) x (by simp [Act.eval]) wo (by rfl) HR.out hxl ?_;intro ou cu w2 o2 b2 hsz5;have HO4:=HOO.out _ _ (by rfl) b2;obtain ⟨d1,d2,t1l,t2l,t1,t2,t3,hcl,hmk⟩:=HO4.insRow (R:=RS RI) rfl hsz5 hsz2 o2 j hj;rw [← HE.out,← HST.out] at hmk;have T1L:=Lib.hid t1l;have T2L:=Lib.hid t2l;have hbel4:Below w.heap.size w w2:=(hbel.trans (Below.drewN _ _ _)).trans (b2.mono hsz2);clear t1l t2l o2 HO4)
       | (refine step_appendS rfl _ _ 36 rfl 24 (.slice none 0 0) 1 24 tI64S (.slice (some ⟨w2.heap.size,0,none⟩) 1 1) 1 [.slice ou x.length cu] (some w2.heap.size) rfl (by simpa using Row.lit w2 #[.slice ou x.length cu] 24 1 1 (by decide) (by simp)) _ _ _ d2 rfl (by have:=T2L.out;omega) (by intro h;cases h) (by intro a ha i u hi;cases ha;rw [Addr.add_lit];exact (hcl (w2.alloc _) ((Below.refl _ _).alloc (Nat.le_refl _) _)).2 i u hi) t2 (by have:=T2L.out;omega) (by have:=T2L.out;unfold maxLen;omega) ?_;intro vA wA ogA happA))
      all_goals
       replace happA:yE (w2.alloc (.cells #[.slice ou x.length cu] 24)) wA vA 1 (1 + d2.length) ([.slice ou x.length cu] ++ d2) (some w2.heap.size) ogA:=by have e:=T2L.out;first|exact happA|(rw [e];simpa using happA)
       obtain ⟨oA,capA,rfl,pA1,pA2⟩:=happA.1.val
       unfold maxLen at pA2
       have lowA:=happA.low (B:=(w2).heap.size) (by simp) (fun g hg => by cases hg;exact Nat.le_refl _)
       have belA:Below (w2).heap.size (w2) wA:=((Below.refl _ _).alloc (Nat.le_refl _) _).trans lowA.2
       have sA:=belA.size
       have HA:=Lib.hid happA.1
       have HogA:=Lib.hid lowA.1
       have CA:=(hcl wA belA).1
       clear happA lowA
       go_wp2_with (at_builtin;refine xW (o:=⟨some 46,_,_,_,_,_⟩) ?_)
       refine jA.go ?_
       refine xF rfl _ _ 36 rfl 24 (.slice none 0 0) 1 24 tI64S (.slice (some ⟨wA.heap.size,0,none⟩) 0 0) 0 [] (some wA.heap.size) rfl (by simpa using Row.lit wA #[] 24 1 0 (by decide) (by simp)) (some ⟨g0,0,none⟩) j _ d1 rfl (by have:=T1L.out;omega) (fun h => by cases h) (by intro a ha i u hi;cases ha;rw [Addr.add_lit,Nat.zero_add];have:=(hcl (wA.alloc (.cells #[] 24)) (belA.alloc sA _)).1 i u hi;exact this) t1 (by have:=T1L.out;omega) (by unfold maxLen;omega) ?_
       intro vB wB ogB happB
       rw [Nat.zero_add,List.nil_append] at happB
       obtain ⟨oB,capB,rfl,pB1,pB2⟩:=happB.1.val
       unfold maxLen at pB2
       have lowB:=happB.low (B:=(w2).heap.size) (Nat.le_trans sA (by simp)) (fun g hg => by cases hg;exact sA)
       have lowB2:=happB.low (B:=wA.heap.size) (by simp) (fun g hg => by cases hg;exact Nat.le_refl _)
       have belB2:Below wA.heap.size wA wB:=((Below.refl _ _).alloc (Nat.le_refl _) _).trans lowB2.2
       have belB:Below (w2).heap.size (w2) wB:=belA.trans (belB2.mono sA)
       have sB:=belB.size
       have hrA:Row wB (.slice oA (1 + d2.length) capA) 1 (1 + d2.length) ([(.slice ou x.length cu)] ++ d2) ogA:=HA.out.frame (fun g hg => belB2.block g (HA.out.lt g hg))
       obtain ⟨gA,hgA⟩:=hrA.some_of (j:=0) (by omega)
       subst hgA
       obtain ⟨oA',cA',eA,_,_,_,eA2⟩:=hrA.value
       simp only [Value.slice.injEq,true_and] at eA
       obtain ⟨rfl,rfl⟩:=eA
       simp only [Option.map_some] at eA2
       subst eA2
       have HRA:=Lib.hid hrA
       have HB:=Lib.hid happB.1
       have HogB:=Lib.hid lowB.1
       clear hrA happB lowB lowB2 CA
       go_wp2_with (at_builtin;refine xW (o:=⟨some 48,_,_,_,_,_⟩) ?_)
       refine jA.go ?_
       refine xF rfl _ _ 36 rfl 24 (.slice none 0 0) 1 24 tI64S (.slice oB j capB) j d1 ogB rfl HB.out (some ⟨gA,0,none⟩) _ _ ([(.slice ou x.length cu)] ++ d2) rfl (by simp <;> omega) (fun h => by cases h) (by intro a ha i u hi;cases ha;rw [Addr.add_lit,Nat.zero_add];exact HRA.out.cells i u hi) (fun u hu => (List.mem_append.1 hu).elim (fun h => by simp at h;subst h;exact t3) (t2 u)) (by have:=T2L.out;omega) (by have:=T2L.out;unfold maxLen;omega) ?_
       intro vC wC ogC happC
       have lowC:=happC.low (B:=(w2).heap.size) sB HogB.out
       have belC:Below (w2).heap.size (w2) wC:=belB.trans lowC.2
       have hrC:=happC.1
       have eN:j + (1 + d2.length) = ys.length + 1:=by have:=T1L.out;have:=T2L.out;omega
       rw [eN,List.singleton_append] at hrC
       have hfin:=hmk wC vC ogC belC hrC lowC.1
       obtain ⟨gC,hgC⟩:=hrC.some_of (j:=0) (by omega)
       subst hgC
       obtain ⟨capC,hvC,_,_⟩:=hrC.slice
       subst hvC
       have HFIN:=Lib.hid hfin
       clear hfin hrC happC lowC HA HB HRA HogA HogB eN
       have hfl:(sortC cmpT (bs.take (k + 1))).length = ys.length + 1:=by rw [vT];simp;rw [Hyl.out];omega
       obtain ⟨zs,hzs⟩:∃ zs,zs = sortC cmpT (bs.take (k + 1)):=⟨_,rfl⟩
       rw [← hzs] at HFIN hfl
       have hkz:zs.length = k + 1:=by rw [hfl,Hyl.out]
       rw [← hfl] at HFIN
       rw [← hfl]
       have HZ:=Lib.hid hzs
       have HKZ:=Lib.hid hkz
       clear hzs hfl hkz
       go_wp2_with fail
       go_roundw
       case rel => exact ⟨k + 1,zs,by omega,by go_num,HZ,HKZ,⟨_,_,rfl⟩,HFIN,hbel4.trans (belC.mono (Nat.le_trans hsz2 hsz5))⟩
       case measure => simp [intOf];omega
     ·have hd:decide (cmpT x ys[j] < 0) = false:=decide_eq_false hle
      rw [hd] at hls
      have HLS:=Lib.hid hls
      have HN:Hid (¬ cmpT x ys[j] < 0):=Lib.hid hle
      clear hd hle hls
      go_wp2_with fail
      go_quiet ((go_at_call 129;exact Calls.qQ' (HLS.out _)))
      go_wp2_with fail
      go_roundw
      case rel =>
       refine ⟨j + 1,by omega,by go_num,Lib.hid (fun q h hq => ?_),(by first|exact yS _ _|exact xQ _ _ _|exact drewN3 _ _ _ _)⟩
       by_cases hqj:q = j
       ·subst hqj;have:=HN.out;omega
       ·have:=hall.out q h (by omega);omega
      case measure => simp [intOf];omega
    ·obtain rfl:j = ys.length:=by omega
     have HE:Hid (ins cmpT x ys = ys.take ys.length ++ x :: ys.drop ys.length):=Lib.hid (ins_at hj hall.out (fun h => by omega))
     have ij3:decide ((ys.length:Int) < (ys.length:Int)) = false:=by simp
     go_wp2_with fail
     go_quiet (fail)
     by_cases hcj:cap0 = ys.length
     all_goals
      go_wp2_with fail
      go_region_law (first
       | (refine own_step rfl _ _ rfl (.slice oi x.length ci) x (by simp [Act.eval]) wo (by rfl) HR.out hxl ?_;intro ou cu w2 o2 b2 hsz5;have HO4:=HOO.out _ _ (by rfl) b2;obtain ⟨d1,d2,t1l,t2l,t1,t2,t3,hcl,hmk⟩:=HO4.insRow (R:=RS RI) rfl hsz5 hsz2 o2 ys.length hj;rw [← HE.out,← HST.out] at hmk;have T1L:=Lib.hid t1l;have T2L:=Lib.hid t2l;have hbel4:Below w.heap.size w w2:=(hbel.trans (Below.drewN _ _ _)).trans (b2.mono hsz2);clear t1l t2l o2 HO4)
       | (refine step_appendS rfl _ _ 36 rfl 24 (.slice none 0 0) 1 24 tI64S (.slice (some ⟨w2.heap.size,0,none⟩) 1 1) 1 [.slice ou x.length cu] (some w2.heap.size) rfl (by simpa using Row.lit w2 #[.slice ou x.length cu] 24 1 1 (by decide) (by simp)) _ _ _ d2 rfl (by have:=T2L.out;omega) (by intro h;simp) (by intro a ha i u hi;rw [List.eq_nil_of_length_eq_zero (l:=d2) (by have:=T2L.out;omega)] at hi;simp at hi) t2 (by have:=T2L.out;omega) (by have:=T2L.out;unfold maxLen;omega) ?_;intro vA wA ogA happA))
      all_goals
       replace happA:yE (w2.alloc (.cells #[.slice ou x.length cu] 24)) wA vA 1 (1 + d2.length) ([.slice ou x.length cu] ++ d2) (some w2.heap.size) ogA:=by have e:=T2L.out;first|exact happA|(rw [e];simpa using happA)
       obtain ⟨oA,capA,rfl,pA1,pA2⟩:=happA.1.val
       unfold maxLen at pA2
       have lowA:=happA.low (B:=(w2).heap.size) (by simp) (fun g hg => by cases hg;exact Nat.le_refl _)
       have belA:Below (w2).heap.size (w2) wA:=((Below.refl _ _).alloc (Nat.le_refl _) _).trans lowA.2
       have sA:=belA.size
       have HA:=Lib.hid happA.1
       have HogA:=Lib.hid lowA.1
       have CA:=(hcl wA belA).1
       clear happA lowA
       go_wp2_with (at_builtin;refine xW (o:=⟨some 46,_,_,_,_,_⟩) ?_)
       refine jA.go ?_
       refine xF rfl _ _ 36 rfl 24 (.slice none 0 0) 1 24 tI64S (.slice (some ⟨wA.heap.size,0,none⟩) 0 0) 0 [] (some wA.heap.size) rfl (by simpa using Row.lit wA #[] 24 1 0 (by decide) (by simp)) (some ⟨g0,0,none⟩) ys.length _ d1 rfl (by have:=T1L.out;omega) (fun h => by cases h) (by intro a ha i u hi;cases ha;rw [Addr.add_lit,Nat.zero_add];have:=(hcl (wA.alloc (.cells #[] 24)) (belA.alloc sA _)).1 i u hi;exact this) t1 (by have:=T1L.out;omega) (by unfold maxLen;omega) ?_
       intro vB wB ogB happB
       rw [Nat.zero_add,List.nil_append] at happB
       obtain ⟨oB,capB,rfl,pB1,pB2⟩:=happB.1.val
       unfold maxLen at pB2
       have lowB:=happB.low (B:=(w2).heap.size) (Nat.le_trans sA (by simp)) (fun g hg => by cases hg;exact sA)
       have lowB2:=happB.low (B:=wA.heap.size) (by simp) (fun g hg => by cases hg;exact Nat.le_refl _)
       have belB2:Below wA.heap.size wA wB:=((Below.refl _ _).alloc (Nat.le_refl _) _).trans lowB2.2
       have belB:Below (w2).heap.size (w2) wB:=belA.trans (belB2.mono sA)
       have sB:=belB.size
       have hrA:Row wB (.slice oA (1 + d2.length) capA) 1 (1 + d2.length) ([(.slice ou x.length cu)] ++ d2) ogA:=HA.out.frame (fun g hg => belB2.block g (HA.out.lt g hg))
       obtain ⟨gA,hgA⟩:=hrA.some_of (j:=0) (by omega)
       subst hgA
       obtain ⟨oA',cA',eA,_,_,_,eA2⟩:=hrA.value
       simp only [Value.slice.injEq,true_and] at eA
       obtain ⟨rfl,rfl⟩:=eA
       simp only [Option.map_some] at eA2
       subst eA2
       have HRA:=Lib.hid hrA
       have HB:=Lib.hid happB.1
       have HogB:=Lib.hid lowB.1
       clear hrA happB lowB lowB2 CA
       go_wp2_with (at_builtin;refine xW (o:=⟨some 48,_,_,_,_,_⟩) ?_)
       refine jA.go ?_
       refine xF rfl _ _ 36 rfl 24 (.slice none 0 0) 1 24 tI64S (.slice oB ys.length capB) ys.length d1 ogB rfl HB.out (some ⟨gA,0,none⟩) _ _ ([(.slice ou x.length cu)] ++ d2) rfl (by simp <;> omega) (fun h => by cases h) (by intro a ha i u hi;cases ha;rw [Addr.add_lit,Nat.zero_add];exact HRA.out.cells i u hi) (fun u hu => (List.mem_append.1 hu).elim (fun h => by simp at h;subst h;exact t3) (t2 u)) (by have:=T2L.out;omega) (by have:=T2L.out;unfold maxLen;omega) ?_
       intro vC wC ogC happC
       have lowC:=happC.low (B:=(w2).heap.size) sB HogB.out
       have belC:Below (w2).heap.size (w2) wC:=belB.trans lowC.2
       have hrC:=happC.1
       have eN:ys.length + (1 + d2.length) = ys.length + 1:=by have:=T1L.out;have:=T2L.out;omega
       rw [eN,List.singleton_append] at hrC
       have hfin:=hmk wC vC ogC belC hrC lowC.1
       obtain ⟨gC,hgC⟩:=hrC.some_of (j:=0) (by omega)
       subst hgC
       obtain ⟨capC,hvC,_,_⟩:=hrC.slice
       subst hvC
       have HFIN:=Lib.hid hfin
       clear hfin hrC happC lowC HA HB HRA HogA HogB eN
       have hfl:(sortC cmpT (bs.take (k + 1))).length = ys.length + 1:=by rw [vT];simp;rw [Hyl.out];omega
       obtain ⟨zs,hzs⟩:∃ zs,zs = sortC cmpT (bs.take (k + 1)):=⟨_,rfl⟩
       rw [← hzs] at HFIN hfl
       have hkz:zs.length = k + 1:=by rw [hfl,Hyl.out]
       rw [← hfl] at HFIN
       rw [← hfl]
       have HZ:=Lib.hid hzs
       have HKZ:=Lib.hid hkz
       clear hzs hfl hkz
       go_wp2_with fail
       go_roundw
       case rel => exact ⟨k + 1,zs,by omega,by go_num,HZ,HKZ,⟨_,_,rfl⟩,HFIN,hbel4.trans (belC.mono (Nat.le_trans hsz2 hsz5))⟩
       case measure => simp [intOf];omega
  ·have hfin:Hid (ys = forest bs):=Lib.hid (by rw [hys.out,List.take_of_length_le (by omega)];rfl)
   have hkb:¬ ((k:Int) < (bs.length:Int)):=by omega
   clear hlt
   go_wp2_with fail
   go_ret
   exact ⟨_,rfl,by rw [← hfin.out];exact hown.out,hbel⟩
end
end Go.Proofs.YtedgfkpfhonlpaaGreat
