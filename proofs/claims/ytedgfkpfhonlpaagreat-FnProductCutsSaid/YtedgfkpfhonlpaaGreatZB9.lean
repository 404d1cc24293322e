/- Lemmas (9). -/
import Derived.Test.YtedgfkpfhonlpaaGreatZB3
import Derived.Test.YtedgfkpfhonlpaaGreatZB5
import Derived.Test.YtedgfkpfhonlpaaGreatZB6
import Derived.Test.YtedgfkpfhonlpaaGreatZB7
import Derived.Test.YtedgfkpfhonlpaaGreatZB8
set_option maxHeartbeats 16000000
set_option maxRecDepth 100000
set_option linter.unusedSimpArgs false
set_option linter.unusedVariables false
namespace Go.Proofs.YtedgfkpfhonlpaaGreat
open Go.RowKit
section
theorem AFn.val1 {P:Program} {f:FuncId} {ds:List (List D)} {k:Nat} {xs:List (List D)} (h:AFn P f ds (· = [.own k xs false])):AFn P f ds (· = [.val (.sl k xs)]):=by
 refine ⟨h.call,fun A w vs hA hr => (h.fn A w vs hA hr).mono ?_⟩
 rintro e w' ⟨v,rs,rfl,rfl,hb,us,G,X,rfl,hG1,hG2,v1,us1,G1,G2,Y1,Y2,rfl,rfl,rfl,ho,⟨og,cap,F,dd,rfl,hrow,hk,rfl,rfl,hel⟩,rfl,rfl,rfl⟩
 refine ⟨_,_,rfl,rfl,hb,[_],[],[],rfl,List.nodup_nil,(fun b hb => nomatch hb),_,[],[],[],[],[],rfl,rfl,rfl,ho,⟨?_,rfl,rfl⟩,rfl,rfl,rfl⟩
 have hel:rdR k (fun b => (A b ∨ w.heap.size ≤ b)∧b ∉ og.toList ++ []) w' dd xs:=hel
 obtain ⟨oa,c,e,h1,h2,h3,h4⟩:=vI hrow
 refine yN.2 ⟨oa,c,dd,e,h1,h2,h3,hel.mono (fun b hb _ => ⟨hb.1,by simp⟩),?_⟩
 cases og with
 | none =>
  left
  have:=hrow.len0
  exact List.eq_nil_of_length_eq_zero (by rw [hrow.1,this,Nat.zero_mul])
 | some g =>
  refine .inr ⟨g,0,h4,⟨.inr (hG2 g (by simp)),by simp⟩,fun j u hj => ?_⟩
  rw [Nat.zero_add]
  exact hrow.cells j u hj
def SmF (f:List (List Int)):Prop:=f.length ≤ 19∧qX f ≤ 100
instance (f:List (List Int)):Decidable (SmF f):=inferInstanceAs (Decidable (_∧_))
theorem SmF.b {f:List (List Int)} (h:SmF f):∀ b ∈ f,b.length ≤ 1000:=fun b hb => by have:=jL hb;have:=h.2;omega
theorem AFn.valT {P:Program} {f:FuncId} {ds:List (List D)} {k:Nat} {xs:List (List D)} (h:AFn P f ds (· = [.own k xs true])):AFn P f ds (· = [.val (.sl k xs)]):=by
 refine ⟨h.call,fun A w vs hA hr => (h.fn A w vs hA hr).mono ?_⟩
 rintro e w' ⟨v,rs,rfl,rfl,hb,us,G,X,rfl,hG1,hG2,v1,us1,G1,G2,Y1,Y2,rfl,rfl,rfl,ho,⟨og,cap,F,dd,rfl,hrow,hk,rfl,rfl,hel⟩,rfl,rfl,rfl⟩
 refine ⟨_,_,rfl,rfl,hb,[_],[],[],rfl,List.nodup_nil,(fun b hb => nomatch hb),_,[],[],[],[],[],rfl,rfl,rfl,ho,⟨?_,rfl,rfl⟩,rfl,rfl,rfl⟩
 have hel:ownR k w' dd xs F:=hel
 have hv:=kH.2 ⟨og,dd,F,hrow,hel,rfl⟩
 exact hv.rd.mono (fun b hb _ => ⟨.inr (hG2 b (by simpa using hb)),by simp⟩)
theorem a_forestOf (f:List (List Int)) (hl:f.length ≤ 19) (hs:qX f ≤ 1000000000):AFn Tryz.prog 102 [eLL f] (· = [.own 1 ((forest f).map eL) true]) :=
 afn_LLL_oo (enters_of Tryz.func102 rfl rfl) (fun u w h => c_impl_forestOf u f w h hl (fun b hb => Nat.le_trans (jL hb) hs))
theorem a_l03Sort (f:List (List Int)) (hl:f.length ≤ 1000) (hs:∀ b ∈ f,b.length ≤ 1000):AFn Tryz.prog 187 [eLL f] (· = [.own 1 ((forest f).map eL) true]) :=
 afn_LLL_oo (enters_of Tryz.func187 rfl rfl) (fun u w h => c_spec_l03Sort u f w h (by omega) (fun b hb => by have:=hs b hb;omega))
theorem a_l03Times (f g:List (List Int)) (hl:f.length ≤ 400) (hs:∀ b ∈ f,b.length ≤ 1000) (hl2:g.length ≤ 400) (hs2:∀ b ∈ g,b.length ≤ 1000):AFn Tryz.prog 148 [eLL f,eLL g] (· = [.own 1 ((mulF f g).map eL) true]):=by
 have h1:=yA0 f (by omega) hs
 have h2:=a_l03Sort (f ++ g) (by rw [List.length_append];omega) (fun b hb => by
  rcases List.mem_append.1 hb with hb|hb
  ·exact hs b hb
  ·exact hs2 b hb)
 simp only [eLL,List.map_append] at h1 h2
 have q1:=jJ (n:=f.length + g.length) (by omega)
 have q2:=qP (n:=f.length + g.length) (c:=24) (by omega) (by omega)
 have e:mulF f g = forest (f ++ g):=rfl
 rw [e]
 refine AFn.of_runs (qQ 10) Tryz.func148 rfl rfl rfl gz ?_
 have hres:Tryz.f148.results.toList = [.tmp 4]:=rfl
 have hrts:Tryz.f148.resultTypes.toList = [36]:=rfl
 simp only [qV,qT,eL,eI,eLL,eB,Nat.zero_add,Nat.reduceAdd]
 intro M
 refine qJ.of ?_
 refine gw37 (Yp q1 q2) ?_
 exact gw2
theorem xE0 (t:List Int) (h:qU t) (hl:t.length ≤ 13):AFn Tryz.prog 91 [eL t] (· = [.own 1 ((canon t).map eI) true]) :=
 afn_L_o (enters_of Tryz.func91 rfl rfl) (fun u w h' => xI0 13 u t w h' h hl (by omega))
theorem a_rootOn (f:List (List Int)) (hs:Small f) (hsz:qX f ≤ 1000000000):AFn Tryz.prog 100 [eLL f] (· = [.own 1 ((qC f).map eI) true]) :=
 afn_LLL_o (enters_of Tryz.func100 rfl rfl) (fun u w h => kY0 u f w h hs hsz)
theorem yI0 (t:List Int) (h:qU t) (hl:t.length ≤ 1000):AFn Tryz.prog 186 [eL t] (· = [.own 1 ((canon t).map eI) true]) :=
 afn_L_o (enters_of Tryz.func186 rfl rfl) (fun u w h' => xH0 1000 u t w h' h hl (by omega))
theorem a_l03Root (f:List (List Int)) (hf:SmF f) (hlev:∀ b ∈ f,qU b):AFn Tryz.prog 193 [eLL f] (· = [.own 1 ((canon (qC f)).map eI) true]):=by
 have hrl:=kY f
 have hca:=yI0 (qC f) (wM hlev) (by have:=hf.2;omega)
 simp only [eL] at hca
 have hsum:∀ i,(qC (f.take i)).length ≤ 101:=fun i => by
  rw [kY]
  have h1:=hf.2
  have h2:qX (f.take i) ≤ qX f:=by
   conv => rhs;rw [← List.take_append_drop i f]
   simp only [qX,List.map_append,List.sum_append];omega
  omega
 refine AFn.of_runs (qQ 35) Tryz.func193 rfl rfl rfl gz ?_
 have hres:Tryz.f193.results.toList = [.tmp 2]:=rfl
 have hrts:Tryz.f193.resultTypes.toList = [24]:=rfl
 simp only [qV,qT,eL,eI,eLL,eB,Nat.zero_add,Nat.reduceAdd]
 intro M
 refine qJ.of ?_
 refine gw38 Y0 ?_
 refine qJ.loop (β:=Nat) (γ:=Unit) (fun i => ⟨[(0,.c (.val (.sl 1 (f.map eL)))),(3,.c (.own 3 (qC (f.take i)).length)),(4,.c (.val (.int i)))],[(3,.row 1 ((qC (f.take i)).map eI) true)]⟩) (fun i => i ≤ f.length) (fun i => f.length - i)
  (fun _ => ⟨[(3,.c (.own 3 (qC f).length))],[(3,.row 1 ((qC f).map eI) true)]⟩) (fun _ => True) 0 (Nat.zero_le _) ?_ ?_ ?_
 ·exact gw39 (show qC [] = [0] from rfl)
 ·intro i hi
  have hi:i ≤ f.length:=hi
  have hw:=qB (n:=i) (by have:=hf.1;omega)
  by_cases h:i < f.length
  ·have i1:((i:Int) < (f.length:Int)) = True:=eq_true (by omega)
   have i2:((0:Int) ≤ (i:Int)) = True:=eq_true (by omega)
   obtain ⟨b,hb⟩:∃ b,b = f[i]:=⟨_,rfl⟩
   have hg:(f.map eL)[i]? = some [.sl 1 (b.map eI)]:=by rw [qD h,hb];rfl
   have hbl:b.length ≤ 100:=by have:=jL (show b ∈ f by rw [hb];exact List.getElem_mem _);have:=hf.2;omega
   have hbs:=(hlev b (by rw [hb];exact List.getElem_mem _)).small (by omega)
   have hst:qC (f.take (i + 1)) = qC (f.take i) ++ b.map (· + 1):=by rw [List.take_succ_eq_append_getElem h,jJ0,hb]
   have hsi:=hsum i
   refine gw40 i1 ?_
   refine qJ.loop (β:=Nat) (γ:=Unit) (fun k => ⟨[(0,.c (.val (.sl 1 (f.map eL)))),(3,.c (.own 3 ((qC (f.take i)).length + k))),(4,.c (.val (.int i))),(5,.c (.val (.int k)))],[(3,.row 1 ((qC (f.take i) ++ (b.take k).map (· + 1)).map eI) true)]⟩) (fun k => k ≤ b.length) (fun k => b.length - k)
    (fun _ => ⟨[(0,.c (.val (.sl 1 (f.map eL)))),(3,.c (.own 3 ((qC (f.take i)).length + b.length))),(4,.c (.val (.int i)))],[(3,.row 1 ((qC (f.take (i + 1))).map eI) true)]⟩) (fun _ => True) 0 (Nat.zero_le _) ?_ ?_ ?_
   ·exact gw41
   ·intro k hk
    have hk:k ≤ b.length:=hk
    have hwk:=qB (n:=k) (by omega)
    have hlen:((qC (f.take i) ++ (b.take k).map (· + 1)).map eI).length = (qC (f.take i)).length + k:=by
     rw [List.length_map,List.length_append,List.length_map,List.length_take];omega
    by_cases hkb:k < b.length
    ·have k1:((k:Int) < (b.length:Int)) = True:=eq_true (by omega)
     have k2:((0:Int) ≤ (k:Int)) = True:=eq_true (by omega)
     obtain ⟨x,hx⟩:∃ x,x = b[k]:=⟨_,rfl⟩
     have hxb:=hbs b[k] (List.getElem_mem _)
     rw [← hx] at hxb
     have hgx:(b.map eI)[k]? = some [.int x]:=by rw [qD hkb,hx];rfl
     have hwx:=qE (n:=x + 1) (by omega)
     have q1:=jJ (n:=(qC (f.take i)).length + k + 1) (by omega)
     have q2:=qP (n:=(qC (f.take i)).length + k + 1) (c:=8) (by omega) (by omega)
     have htk:(b.take (k + 1)).map (· + 1) = (b.take k).map (· + 1) ++ [x + 1]:=by rw [List.take_succ_eq_append_getElem hkb,List.map_append,hx];rfl
     have hlf:(f.map eL).length = f.length:=List.length_map _
     have hlb:(b.map eI).length = b.length:=List.length_map _
     refine gw42 (Y12 i1 i2 k1 k2 hg hgx hwk hwx q1 q2 hlen (Yp hlf hlb)) ?_
     refine qY.on (k + 1) ⟨hkb,by omega⟩ ?_
     rw [htk,← List.append_assoc]
     exact gw43
    ·have k1:((k:Int) < (b.length:Int)) = False:=eq_false (by omega)
     obtain rfl:k = b.length:=by omega
     have hlf:(f.map eL).length = f.length:=List.length_map _
     have hlb:(b.map eI).length = b.length:=List.length_map _
     rw [List.take_length,← hst]
     refine gw42 (Y6 i1 i2 k1 hg hlf hlb) ?_
     refine qY.out () trivial ?_
     exact gw7 Y0
   ·rintro _ _
    refine gw38 hw ?_
    refine qY.on (i + 1) ⟨h,by omega⟩ ?_
    have hl2:(qC (f.take (i + 1))).length = (qC (f.take i)).length + b.length:=by rw [hst,List.length_append,List.length_map]
    rw [hl2]
    exact gw7 Y0
  ·have i1:((i:Int) < (f.length:Int)) = False:=eq_false (by omega)
   obtain rfl:i = f.length:=by omega
   rw [List.take_length]
   refine gw40 i1 ?_
   refine qY.out () trivial ?_
   exact gw7 Y0
 ·rintro _ _
  refine gw44 ?_
  exact gw2
theorem z10:((1:Int) == 0) = false:=rfl
theorem z00:((0:Int) == 0) = true:=rfl
theorem zm0:((-1:Int) == 0) = false:=rfl
end
section
def eSp (z:Spl × Int):List D:=[.sl 1 (z.1.1.map eL),.sl 1 (z.1.2.map eL),.int z.2]
def codF2:Cod Spl:=codP 1 codLL codLL (fun _ => rfl)
def codSp:Cod (Spl × Int):=codP 2 codF2 codI (fun _ => rfl)
theorem vK (f g:List (List Int)) (n:Int):codSp.d [.sl 1 (f.map eL),.sl 1 (g.map eL),.int n] = some ((f,g),n):=codSp.de ((f,g),n)
theorem codSps_d (L:List (Spl × Int)):(codS 3 codSp).d [.sl 3 (L.map eSp)] = some L:=(codS 3 codSp).de L
def SmS (s:Spl):Prop:=SmF s.1∧SmF s.2
instance (s:Spl):Decidable (SmS s):=inferInstanceAs (Decidable (_∧_))
def HaF (f:List (List Int)):Prop:=f.length ≤ 9∧qX f ≤ 50
instance (f:List (List Int)):Decidable (HaF f):=inferInstanceAs (Decidable (_∧_))
def HaS (s:Spl):Prop:=HaF s.1∧HaF s.2
theorem HaF.mul {f g:List (List Int)} (hf:HaF f) (hg:HaF g):SmF (mulF f g):=by
 obtain ⟨h1,h2⟩:=hf
 obtain ⟨h3,h4⟩:=hg
 exact ⟨by rw [wV];omega,by rw [kZ];omega⟩
theorem HaS.mul {s c:Spl} (hs:HaS s) (hc:HaS c):SmS (mulS s c):=⟨hs.1.mul hc.1,hs.2.mul hc.2⟩
theorem HaF.sm {f:List (List Int)} (hf:HaF f):SmF f:=⟨by have:=hf.1;omega,by have:=hf.2;omega⟩
theorem HaS.sm {s:Spl} (hs:HaS s):SmS s:=⟨hs.1.sm,hs.2.sm⟩
theorem cmpS_sgn (s c:Spl):sgn (cmpS s c) = if qX s.1 = qX c.1 then (if sgn (cmpN s.1 c.1) = 0 then sgn (cmpN s.2 c.2) else sgn (cmpN s.1 c.1)) else (if qX s.1 < qX c.1 then -1 else 1):=by
 have z:∀ n:Int,sgn n = 0 ↔ n = 0:=fun n => by unfold sgn;split <;> (try split) <;> omega
 unfold cmpS pairC
 rw [cmpF_N]
 by_cases h:qX s.1 = qX c.1
 ·rw [if_pos h]
  simp only [h,if_true]
  by_cases h0:cmpN s.1 c.1 = 0
  ·rw [if_pos h0,if_pos ((z _).2 h0)]
  ·rw [if_neg h0,if_neg (fun e => h0 ((z _).1 e))]
 ·rw [if_neg h,if_neg (show ¬ (qX s.1:Int) = qX c.1 by omega),if_neg (by omega)]
  by_cases h2:qX s.1 < qX c.1
  ·rw [if_pos h2,wL (by omega)]
  ·rw [if_neg h2,qX0 (by omega)]
noncomputable def TOrd:Tab Tryz.prog :=
 qN.add 195 (tab2 codLL codLL fun f g => if SmF f∧SmF g then some [.val (.int (sgn (cmpN f g)))] else none) (yK fun f g rs h => by split at h;cases h;rename_i hs;exact a_l05Compare f g (by have:=hs.1.1;omega) (by have:=hs.2.1;omega);cases h)
theorem a_l05Order (z y:Spl × Int) (hz:SmS z.1) (hy:SmS y.1):AFn Tryz.prog 231 [eSp z,eSp y] (· = [.val (.int (sgn (cmpS z.1 y.1)))]):=by
 obtain ⟨⟨f,g⟩,n⟩:=z
 obtain ⟨⟨f',g'⟩,n'⟩:=y
 obtain ⟨hz1,hz2⟩:=hz
 obtain ⟨hy1,hy2⟩:=hy
 simp only at hz1 hz2 hy1 hy2
 have hn1:jK f = qX f:=xI f (by have:=hz1.2;omega)
 have hn2:jK f' = qX f':=xI f' (by have:=hy1.2;omega)
 have e1:=eq_true hz1
 have e2:=eq_true hz2
 have e3:=eq_true hy1
 have e4:=eq_true hy2
 rw [cmpS_sgn]
 simp only
 refine AFn.of_runs (qQ 33) Tryz.func231 rfl rfl rfl gz ?_
 have hres:Tryz.f231.results.toList = [.tmp 4]:=rfl
 have hrts:Tryz.f231.resultTypes.toList = [2]:=rfl
 simp only [qV,qT,eL,eI,eLL,eB,Nat.zero_add,Nat.reduceAdd,eSp]
 intro M
 refine qJ.of ?_
 by_cases hl:qX f = qX f'
 ·have hb:((qX f:Int) != (qX f':Int)) = false:=by simp [hl]
  rw [if_pos hl]
  by_cases h0:sgn (cmpN f f') = 0
  ·have h0b:(sgn (cmpN f f') != 0) = false:=by simp [h0]
   rw [if_pos h0]
   refine gw45 (Y7 hb hn1 hn2 h0b e1 e2 e4) ?_
   exact gw2
  ·have h0b:(sgn (cmpN f f') != 0) = true:=bne_iff_ne.2 h0
   rw [if_neg h0]
   refine gw45 (Y7 hb hn1 hn2 h0b e1 e2 e4) ?_
   exact gw2
 ·have hb:((qX f:Int) != (qX f':Int)) = true:=by simp;omega
  rw [if_neg hl]
  by_cases h2:qX f < qX f'
  ·have i1:((qX f:Int) < (qX f':Int)) = True:=eq_true (by omega)
   rw [if_pos h2]
   refine gw46 (Y4 hb hn1 hn2 i1) ?_
   exact gw2
  ·have i1:((qX f:Int) < (qX f':Int)) = False:=eq_false (by omega)
   rw [if_neg h2]
   refine gw46 (Y4 hb hn1 hn2 i1) ?_
   exact gw2
noncomputable def xZ:Tab Tryz.prog :=
 Tab.none.add 231 (tab2 codSp codSp fun z y => if SmS z.1∧SmS y.1 then some [.val (.int (sgn (cmpS z.1 y.1)))] else none) (yK fun z y rs h => by split at h;cases h;rename_i hs;exact a_l05Order z y hs.1 hs.2;cases h)
structure PutNI (L:List (Spl × Int)) (k:Int) (x:Spl) (y:Nat × Bool × List (Spl × Int)):Prop where
 le:y.1 ≤ L.length
 no:y.2.1 = false→y.2.2 = L.take y.1∧∀ q ∈ L.take y.1,0 < cmpS x q.1
 yes:y.2.1 = true→y.2.2 ++ L.drop y.1 = putN cmpS L k x
 len:y.2.2.length ≤ y.1 + 1
theorem putN_at {L:List (Spl × Int)} {k:Int} {x:Spl} {i:Nat} (h:i < L.length) (hlow:∀ q ∈ L.take i,0 < cmpS x q.1):putN cmpS L k x = L.take i ++ putN cmpS (L[i] :: L.drop (i + 1)) k x:=by
 have h1:=putN_skip (k:=k) (L.drop i) hlow
 rw [List.take_append_drop,List.drop_eq_getElem_cons h] at h1
 exact h1
theorem a_l05Put (L:List (Spl × Int)) (k:Int) (x:Spl) (hl:L.length ≤ 1000000) (hL:∀ q ∈ L,(1 ≤ q.2∧q.2 ≤ 1000000000)∧SmS q.1) (hk:1 ≤ k∧k ≤ 1000000000) (hx:SmS x):AFn Tryz.prog 191 [[.sl 3 (L.map eSp)],eSp (x,k)] (· = [.val (.sl 3 ((putN cmpS L k x).map eSp))]):=by
 refine AFn.val1 ?_
 have hff:=eq_true hx
 obtain ⟨xf,xg⟩:=x
 refine AFn.of_runs (qQ 54) Tryz.func191 rfl rfl rfl gz ?_
 have hres:Tryz.f191.results.toList = [.tmp 4]:=rfl
 have hrts:Tryz.f191.resultTypes.toList = [33]:=rfl
 simp only [qV,qT,eL,eI,eLL,eB,Nat.zero_add,Nat.reduceAdd,eSp]
 intro M
 refine qJ.of ?_
 refine gw47 ?_
 refine qJ.loop (β:=Nat × Bool × List (Spl × Int)) (γ:=Bool × List (Spl × Int)) (fun y => ⟨[(0,.c (.val (.sl 3 (L.map eSp)))),(3,.optr 3 0 0),(5,.c (.own 5 y.2.2.length)),(6,.c (.val (.bool y.2.1))),(7,.c (.val (.int y.1)))],[(3,.row 3 [[.sl 1 (xf.map eL),.sl 1 (xg.map eL),.int k]] false),(5,.row 3 (y.2.2.map eSp) false)]⟩) (PutNI L k (xf,xg)) (fun y => L.length - y.1)
  (fun y => ⟨[(3,.optr 3 0 0),(5,.c (.own 5 y.2.length)),(6,.c (.val (.bool y.1)))],[(3,.row 3 [[.sl 1 (xf.map eL),.sl 1 (xg.map eL),.int k]] false),(5,.row 3 (y.2.map eSp) false)]⟩) (fun y => PutNI L k (xf,xg) (L.length,y)) (0,false,[]) ⟨Nat.zero_le _,fun _ => ⟨rfl,by simp⟩,(fun h => nomatch h),Nat.zero_le _⟩ ?_ ?_ ?_
 ·exact gw48
 ·rintro ⟨i,d,o⟩ ⟨hi,hno,hyes,hlen⟩
  simp only at hi hno hyes hlen ⊢
  have hw:=qB (n:=i) (by omega)
  have q1:=jJ (n:=o.length + 1) (by omega)
  have q2:=qP (n:=o.length + 1) (c:=56) (by omega) (by omega)
  have q3:=jJ (n:=o.length + 1 + 1) (by omega)
  have q4:=qP (n:=o.length + 1 + 1) (c:=56) (by omega) (by omega)
  by_cases h:i < L.length
  ·have i1:((i:Int) < (L.length:Int)) = True:=eq_true (by omega)
   have i2:((0:Int) ≤ (i:Int)) = True:=eq_true (by omega)
   obtain ⟨z,hz⟩:∃ z,z = L[i]:=⟨_,rfl⟩
   obtain ⟨⟨hz1,hz2⟩,hz3⟩:=hL L[i] (List.getElem_mem _)
   have hg:(L.map eSp)[i]? = some [.sl 1 (z.1.1.map eL),.sl 1 (z.1.2.map eL),.int z.2]:=by rw [qD h,hz];rfl
   have hdr:L.drop i = z :: L.drop (i + 1):=by rw [hz];exact List.drop_eq_getElem_cons h
   have htk:L.take (i + 1) = L.take i ++ [z]:=by rw [hz];exact List.take_succ_eq_append_getElem h
   rw [← hz] at hz1 hz2 hz3
   obtain ⟨⟨zf,zg⟩,zn⟩:=z
   simp only at hz1 hz2 hz3 hg
   have hzz:=eq_true hz3
   cases d with
   | true =>
    refine gw49 (Y6 i1 i2 hg hw q1 q2) ?_
    refine qY.on (i + 1,true,o ++ [((zf,zg),zn)]) ?_ ?_
    refine ⟨⟨h,(fun h => nomatch h),fun _ => ?_,?_⟩,?_⟩
    ·rw [← hyes rfl,hdr];simp
    ·simp;omega
    ·show L.length - (i + 1) < L.length - i;omega
    ·exact gw50
   | false =>
    obtain ⟨ho,hlow⟩:=hno rfl
    have hpa:=putN_at (k:=k) h hlow
    rw [← hz] at hpa
    rcases Int.lt_trichotomy (cmpS (xf,xg) (zf,zg)) 0 with hc|hc|hc
    ·have hs:=wL hc
     have hp:putN cmpS L k (xf,xg) = o ++ [((xf,xg),k)] ++ [((zf,zg),zn)] ++ L.drop (i + 1):=by
      rw [hpa,ho];unfold putN;rw [if_pos hc];simp
     refine gw51 (Y11 i1 i2 hg hw hs hff hzz q1 q2 q3 q4) ?_
     refine qY.on (i + 1,true,o ++ [((xf,xg),k)] ++ [((zf,zg),zn)]) ?_ ?_
     refine ⟨⟨h,(fun h => nomatch h),fun _ => hp.symm,?_⟩,?_⟩
     ·have:o.length = i:=by rw [ho,List.length_take];omega
      simp;omega
     ·show L.length - (i + 1) < L.length - i;omega
     ·exact gw50
    ·have hs:sgn (cmpS (xf,xg) (zf,zg)) = 0:=by rw [hc];rfl
     have hwk:=qE (n:=zn + k) (by omega)
     have hp:putN cmpS L k (xf,xg) = o ++ [((zf,zg),zn + k)] ++ L.drop (i + 1):=by
      rw [hpa,ho];unfold putN;rw [if_neg (show ¬ cmpS (xf,xg) (zf,zg) < 0 by omega),if_pos hc];simp
     refine gw49 (Y10 i1 i2 hg hw hs hwk hff hzz q1 q2) ?_
     refine qY.on (i + 1,true,o ++ [((zf,zg),zn + k)]) ?_ ?_
     refine ⟨⟨h,(fun h => nomatch h),fun _ => hp.symm,?_⟩,?_⟩
     ·simp;omega
     ·show L.length - (i + 1) < L.length - i;omega
     ·exact gw50
    ·have hs:=qX0 hc
     refine gw49 (Y9 i1 i2 hg hw hs hff hzz q1 q2) ?_
     refine qY.on (i + 1,false,o ++ [((zf,zg),zn)]) ?_ ?_
     refine ⟨⟨h,fun _ => ⟨by rw [htk,ho],?_⟩,(fun h => nomatch h),?_⟩,?_⟩
     ·intro q hq
      have hq:q ∈ L.take (i + 1):=hq
      rw [htk,List.mem_append,List.mem_singleton] at hq
      rcases hq with hq|rfl
      ·exact hlow q hq
      ·exact hc
     ·simp;omega
     ·show L.length - (i + 1) < L.length - i;omega
     ·exact gw50
  ·have i1:((i:Int) < (L.length:Int)) = False:=eq_false (by omega)
   obtain rfl:i = L.length:=by omega
   refine gw52 i1 ?_
   refine qY.out (d,o) ⟨Nat.le_refl _,hno,hyes,hlen⟩ ?_
   exact gw7 Y0
 ·rintro ⟨d,o⟩ ⟨_,hno,hyes,hlen⟩
  simp only at hno hyes hlen ⊢
  have q1:=jJ (n:=o.length + 1) (by omega)
  have q2:=qP (n:=o.length + 1) (c:=56) (by omega) (by omega)
  cases d with
  | true =>
   have hp:putN cmpS L k (xf,xg) = o:=by rw [← hyes rfl];simp
   rw [hp]
   refine gw47 ?_
   exact gw2
  | false =>
   obtain ⟨ho,hlow⟩:=hno rfl
   have hp:putN cmpS L k (xf,xg) = o ++ [((xf,xg),k)]:=by
    have h1:=putN_skip (k:=k) [] hlow
    rw [List.append_nil,List.take_length] at h1
    rw [h1,ho,List.take_length]
    rfl
   rw [hp]
   refine gw53 (Yp q1 q2) ?_
   (refine Ends.mk (by simp) (rs:=?_) (ks:=?_) hres hrts ?_ ?_ ?_;rotate_left 2;(focus (simp only [Ze,Zg,Zi,seval,reduceCtorEq,Nat.reduceEqDiff,eSp];with_reducible rfl));(focus simp);focus (first|with_reducible rfl|(simp only [Zv,eSp];done)))
def sumN (P:List (Spl × Int)):List (Spl × Int):=P.foldl (fun s p => putN cmpS s p.2 p.1) []
theorem sumN_snoc (P:List (Spl × Int)) (p:Spl × Int):sumN (P ++ [p]) = putN cmpS (sumN P) p.2 p.1:=by unfold sumN;rw [List.foldl_append];rfl
theorem sumN_is {P:List (Spl × Int)} (h:∀ p ∈ P,1 ≤ p.2):IsN cmpS (sumN P) (expN P):=by
 have:=IsN.puts xD P (IsN.nil (c:=cmpS)) h
 rw [List.nil_append] at this
 exact this
theorem sumN_ok {P:List (Spl × Int)} (hP:∀ q ∈ P,1 ≤ q.2∧SmS q.1) (hn:(expN P).length ≤ 1000000):(sumN P).length ≤ 1000000∧∀ q ∈ sumN P,(1 ≤ q.2∧q.2 ≤ 1000000000)∧SmS q.1:=by
 have h:=sumN_is (fun p hp => (hP p hp).1)
 refine ⟨Nat.le_trans h.len hn,fun q hq => ?_⟩
 have h1:=h.cnt q hq
 obtain ⟨r,hr,e⟩:=expN_mem (h.key q hq)
 exact ⟨⟨h1.1,by omega⟩,e ▸ (hP r hr).2⟩
def prodN (A B:List (Spl × Int)):List (Spl × Int):=A.flatMap fun a => B.map fun b => (mulS a.1 b.1,a.2 * b.2)
theorem times_sum (A B:List (Spl × Int)):timesN cmpS mulS A B = sumN (prodN A B):=rfl
theorem prodN_len {A B:List (Spl × Int)} (hA:∀ p ∈ A,1 ≤ p.2) (hB:∀ p ∈ B,1 ≤ p.2):(expN (prodN A B)).length = (expN A).length * (expN B).length:=by
 unfold prodN
 rw [(exp_prod mulS B hB A hA).length_eq]
 generalize expN A = X
 induction X with
 | nil => simp
 | cons x X ih => rw [List.flatMap_cons,List.length_append,ih,List.length_map,List.length_cons,Nat.succ_mul,Nat.add_comm]
theorem prodN_snoc (A B:List (Spl × Int)) (a:Spl × Int):prodN (A ++ [a]) B = prodN A B ++ B.map fun b => (mulS a.1 b.1,a.2 * b.2):=by simp [prodN]
theorem prodN_take {A B:List (Spl × Int)} {i:Nat} (h:i < A.length):∃ Y,prodN A B = (prodN (A.take i) B ++ B.map fun b => (mulS A[i].1 b.1,A[i].2 * b.2)) ++ Y:=by
 refine ⟨prodN (A.drop (i + 1)) B,?_⟩
 rw [← prodN_snoc,← List.take_succ_eq_append_getElem h]
 unfold prodN
 rw [← List.flatMap_append,List.take_append_drop]
noncomputable def TTmN:Tab Tryz.prog :=
 (Tab.none.add 148 (tab2 codLL codLL fun f g => if HaF f∧HaF g then some [.val (.sl 1 ((mulF f g).map eL))] else none) (yK fun f g rs h => by
  split at h
  ·rename_i hs
   cases h
   exact AFn.valT (a_l03Times f g (by have:=hs.1.1;omega) (fun b hb => by have:=jL hb;have:=hs.1.2;omega) (by have:=hs.2.1;omega) (fun b hb => by have:=jL hb;have:=hs.2.2;omega))
  ·cases h)).add
  191 (tab2 (codS 3 codSp) codSp fun L p => if L.length ≤ 1000000∧(∀ q ∈ L,(1 ≤ q.2∧q.2 ≤ 1000000000)∧SmS q.1)∧(1 ≤ p.2∧p.2 ≤ 1000000000)∧SmS p.1 then some [.val (.sl 3 ((putN cmpS L p.2 p.1).map eSp))] else none) (yK fun L p rs h => by
  split at h
  ·rename_i hs
   cases h
   exact a_l05Put L p.2 p.1 hs.1 hs.2.1 hs.2.2.1 hs.2.2.2
  ·cases h)
theorem a_l05Times (A B:List (Spl × Int)) (hA:∀ p ∈ A,1 ≤ p.2∧HaS p.1) (hB:∀ p ∈ B,1 ≤ p.2∧HaS p.1) (nA:(expN A).length ≤ 1000) (nB:(expN B).length ≤ 1000) :
  AFn Tryz.prog 131 [[.sl 3 (A.map eSp)],[.sl 3 (B.map eSp)]] (· = [.val (.sl 3 ((timesN cmpS mulS A B).map eSp))]):=by
 rw [times_sum]
 have cA:∀ p ∈ A,p.2 ≤ 1000:=fun p hp => by
  obtain ⟨s,t,rfl⟩:=List.append_of_mem hp
  rw [qQ0,yY,List.length_append,List.length_append,List.length_replicate] at nA
  omega
 have cB:∀ p ∈ B,p.2 ≤ 1000:=fun p hp => by
  obtain ⟨s,t,rfl⟩:=List.append_of_mem hp
  rw [qQ0,yY,List.length_append,List.length_append,List.length_replicate] at nB
  omega
 have len1:∀ (L:List (Spl × Int)),(∀ p ∈ L,1 ≤ p.2)→L.length ≤ (expN L).length:=by
  intro L
  induction L with
  | nil => intro _;exact Nat.le_refl _
  | cons p L ih =>
   intro hp
   have h1:=hp p (by simp)
   have h2:=ih (fun q hq => hp q (by simp [hq]))
   rw [yY,List.length_append,List.length_replicate,List.length_cons];omega
 have lA:A.length ≤ 1000:=Nat.le_trans (len1 A (fun p hp => (hA p hp).1)) nA
 have lB:B.length ≤ 1000:=Nat.le_trans (len1 B (fun p hp => (hB p hp).1)) nB
 have hP:∀ q ∈ prodN A B,1 ≤ q.2∧SmS q.1:=fun q hq => by
  obtain ⟨a,ha,hq⟩:=List.mem_flatMap.1 hq
  obtain ⟨b,hb,rfl⟩:=List.mem_map.1 hq
  exact ⟨Int.mul_pos (hA a ha).1 (hB b hb).1,(hA a ha).2.mul (hB b hb).2⟩
 have hN:(expN (prodN A B)).length ≤ 1000000:=by
  rw [prodN_len (fun p hp => (hA p hp).1) (fun p hp => (hB p hp).1)]
  exact Nat.le_trans (Nat.mul_le_mul nA nB) (by decide)
 have hpre:∀ X Y,prodN A B = X ++ Y→(sumN X).length ≤ 1000000∧∀ q ∈ sumN X,(1 ≤ q.2∧q.2 ≤ 1000000000)∧SmS q.1:=fun X Y e =>
  sumN_ok (fun q hq => hP q (by rw [e];simp [hq])) (by rw [e,qQ0,List.length_append] at hN;omega)
 refine AFn.of_runs (qQ 58) Tryz.func131 rfl rfl rfl gz ?_
 have hres:Tryz.f131.results.toList = [.tmp 4]:=rfl
 have hrts:Tryz.f131.resultTypes.toList = [33]:=rfl
 simp only [qV,qT,eL,eI,eLL,eB,Nat.zero_add,Nat.reduceAdd]
 intro M
 refine qJ.of ?_
 refine gw54 Y0 ?_
 refine qJ.frz 5 ?_
 refine qJ.fits (s0:=⟨[(0,.c (.val (.sl 3 (A.map eSp)))),(1,.c (.val (.sl 3 (B.map eSp)))),(5,.c (.val (.sl 3 []))),(6,.c (.val (.int 0)))],[]⟩) ?_ ?_
 ·exact gw55
 refine qJ.loop (β:=Nat) (γ:=Unit) (fun i => ⟨[(0,.c (.val (.sl 3 (A.map eSp)))),(1,.c (.val (.sl 3 (B.map eSp)))),(5,.c (.val (.sl 3 ((sumN (prodN (A.take i) B)).map eSp)))),(6,.c (.val (.int i)))],[]⟩) (fun i => i ≤ A.length) (fun i => A.length - i)
  (fun _ => ⟨[(5,.c (.val (.sl 3 ((sumN (prodN A B)).map eSp))))],[]⟩) (fun _ => True) 0 (Nat.zero_le _) ?_ ?_ ?_
 ·exact gw56 (Yp (show prodN [] B = [] from rfl) (show sumN [] = [] from rfl))
 ·intro i hi
  have hi:i ≤ A.length:=hi
  have hw:=qB (n:=i) (by omega)
  by_cases h:i < A.length
  ·have i1:((i:Int) < (A.length:Int)) = True:=eq_true (by omega)
   have i2:((0:Int) ≤ (i:Int)) = True:=eq_true (by omega)
   obtain ⟨z,hz⟩:∃ z,z = A[i]:=⟨_,rfl⟩
   obtain ⟨hz1,hz2⟩:=hA A[i] (List.getElem_mem _)
   have hz3:=cA A[i] (List.getElem_mem _)
   obtain ⟨Y,hY⟩:=prodN_take (B:=B) h
   have hg:(A.map eSp)[i]? = some [.sl 1 (z.1.1.map eL),.sl 1 (z.1.2.map eL),.int z.2]:=by rw [qD h,hz];rfl
   have htk:prodN (A.take (i + 1)) B = prodN (A.take i) B ++ B.map fun b => (mulS z.1 b.1,z.2 * b.2):=by
    rw [hz,List.take_succ_eq_append_getElem h,prodN_snoc]
   rw [← hz] at hz1 hz2 hz3 hY
   obtain ⟨R,hR⟩:∃ R,R = prodN (A.take i) B:=⟨_,rfl⟩
   rw [← hR] at hY htk ⊢
   have hle:(A.map eSp).length = A.length:=List.length_map _
   refine gw57 (Y3 i1 i2 hle) ?_
   refine qJ.loop (β:=Nat) (γ:=Unit) (fun j => ⟨[(0,.c (.val (.sl 3 (A.map eSp)))),(1,.c (.val (.sl 3 (B.map eSp)))),(5,.c (.val (.sl 3 ((sumN (R ++ (B.take j).map fun b => (mulS z.1 b.1,z.2 * b.2))).map eSp)))),(6,.c (.val (.int i))),(7,.c (.val (.int j)))],[]⟩) (fun j => j ≤ B.length) (fun j => B.length - j)
    (fun _ => ⟨[(0,.c (.val (.sl 3 (A.map eSp)))),(1,.c (.val (.sl 3 (B.map eSp)))),(5,.c (.val (.sl 3 ((sumN (R ++ B.map fun b => (mulS z.1 b.1,z.2 * b.2))).map eSp)))),(6,.c (.val (.int i)))],[]⟩) (fun _ => True) 0 (Nat.zero_le _) ?_ ?_ ?_
   ·exact gw58
   ·intro j hj
    have hj:j ≤ B.length:=hj
    have hwj:=qB (n:=j) (by omega)
    by_cases g:j < B.length
    ·have j1:((j:Int) < (B.length:Int)) = True:=eq_true (by omega)
     have j2:((0:Int) ≤ (j:Int)) = True:=eq_true (by omega)
     obtain ⟨y,hy⟩:∃ y,y = B[j]:=⟨_,rfl⟩
     obtain ⟨hy1,hy2⟩:=hB B[j] (List.getElem_mem _)
     have hy3:=cB B[j] (List.getElem_mem _)
     have hgj:(B.map eSp)[j]? = some [.sl 1 (y.1.1.map eL),.sl 1 (y.1.2.map eL),.int y.2]:=by rw [qD g,hy];rfl
     have hst:(R ++ (B.take (j + 1)).map fun b => (mulS z.1 b.1,z.2 * b.2)) = (R ++ (B.take j).map fun b => (mulS z.1 b.1,z.2 * b.2)) ++ [(mulS z.1 y.1,z.2 * y.2)]:=by
      rw [hy,List.take_succ_eq_append_getElem g,List.map_append,List.append_assoc];rfl
     rw [← hy] at hy1 hy2 hy3
     have hsplit:prodN A B = (R ++ (B.take j).map fun b => (mulS z.1 b.1,z.2 * b.2)) ++ (((B.drop j).map fun b => (mulS z.1 b.1,z.2 * b.2)) ++ Y):=by
      rw [hY]
      conv => lhs;rw [← List.take_append_drop j B,List.map_append]
      simp only [List.append_assoc]
     obtain ⟨K,hK⟩:∃ K,K = R ++ (B.take j).map fun b => (mulS z.1 b.1,z.2 * b.2):=⟨_,rfl⟩
     rw [← hK] at hsplit hst ⊢
     have hKb:=hpre K _ hsplit
     have hej:(B.map eSp).length = B.length:=List.length_map _
     have hm0:1 ≤ z.2 * y.2:=Int.mul_pos hz1 hy1
     have hm1:z.2 * y.2 ≤ 1000000:=Int.mul_le_mul hz3 hy3 (by omega) (by decide)
     have hwm:=qE (n:=z.2 * y.2) (by omega)
     have t1:=eq_true (And.intro hz2.1 hy2.1)
     have t2:=eq_true (And.intro hz2.2 hy2.2)
     have t3:=eq_true (And.intro hKb.1 (And.intro hKb.2 (And.intro (show 1 ≤ z.2 * y.2∧z.2 * y.2 ≤ 1000000000 by omega) (show SmS (mulF z.1.1 y.1.1,mulF z.1.2 y.1.2) from hz2.mul hy2))))
     refine gw59 (Y12 i1 i2 j1 j2 hg hgj hwj hle hej hwm t1 (Yp t2 t3)) ?_
     refine qY.on (j + 1) ⟨g,by omega⟩ ?_
     rw [hst,sumN_snoc]
     exact gw60
    ·have j1:((j:Int) < (B.length:Int)) = False:=eq_false (by omega)
     obtain rfl:j = B.length:=by omega
     rw [List.take_length]
     refine gw61 j1 ?_
     refine qY.out () trivial ?_
     exact gw7 Y0
   ·rintro _ _
    refine gw54 hw ?_
    refine qY.on (i + 1) ⟨h,by omega⟩ ?_
    rw [htk]
    exact gw7 Y0
  ·have i1:((i:Int) < (A.length:Int)) = False:=eq_false (by omega)
   obtain rfl:i = A.length:=by omega
   rw [List.take_length]
   refine gw61 i1 ?_
   refine qY.out () trivial ?_
   exact gw7 Y0
 ·rintro _ _
  refine gw54 Y0 ?_
  exact gw2
end
section
theorem Row.take {w:World} {k n m cap:Nat} {ds:List Value} {og:Option Nat} (h:Row w (slv og n cap) k n ds og) (hm:m ≤ n):Row w (slv og m cap) k m (ds.take (m * k)) og:=by
 refine ⟨by rw [List.length_take,h.1];exact Nat.min_eq_left (Nat.mul_le_mul_right k hm),?_⟩
 rcases h.2 with ⟨h1,h2,h3⟩|⟨g,c,cur,e,h1,h2,h3,h4,h5,h6,h7⟩
 ·subst h3
  exact .inl ⟨rfl,by omega,rfl⟩
 ·subst h2
  have hc:cap = c:=by
   unfold slv at h1
   simp only [Value.slice.injEq] at h1
   exact h1.2.2
  subst hc
  refine .inr ⟨g,cap,cur,e,rfl,rfl,h3,by omega,h5,h6,?_⟩
  rw [← h7,List.take_take,Nat.min_eq_left (Nat.mul_le_mul_right k hm)]
section
variable {P:Program} {cfg:Cfg} {M:Nat→Prop} {w0:W0} {w w':World} {Ok:Nat→Prop} {N:Nat} {σ:Asg} {s:St} {a:Act} {ops:Array Oper}
theorem Sim.trunc (h:Sim w0 Ok N σ s a w) {key k n:Nat} {xs:List (List D)} {d:Bool} (hk:look key s.heap = some (.row k xs d)) (hn:n ≤ xs.length) (hnr:∀ q u,q ≠ key→look q s.heap = some u→key ∉ u.refs) :
  Sim w0 Ok N σ ⟨killR key s.regs,insR key (.row k (xs.take n) false) s.heap⟩ a w:=by
 have hro:=h.rows key _ hk
 obtain ⟨ds,hrow,hkp,hrd⟩:=RowOK.rd h.ok1 h.rows h.disj hk
 have hlen:(xs.take n).length = n:=by rw [List.length_take];omega
 have hfp0:∀ b ∈ fp σ key (.row k (xs.take n) false),b ∈ fp σ key (.row k xs d):=by
  intro b hb
  have hb:b ∈ (σ.g key).toList ++ []:=hb
  rw [List.append_nil] at hb
  exact List.mem_append_left _ hb
 have hl:∀ q o',look q (insR key (.row k (xs.take n) false) s.heap) = some o'→(q = key∧o' = .row k (xs.take n) false) ∨ (q ≠ key∧look q s.heap = some o'):=by
  intro q o' ho'
  rw [qR] at ho'
  split at ho'
  ·rename_i e;cases ho';exact .inl ⟨e.symm,rfl⟩
  ·rename_i e;exact .inr ⟨fun e' => e e'.symm,ho'⟩
 have hZ:jV σ σ s.heap (insR key (.row k (xs.take n) false) s.heap) w w:=fun b hb => ⟨⟨hb.1,hb.2.1,fun q o' ho' => by
  rcases hl q o' ho' with ⟨rfl,_⟩|⟨_,ho⟩
  ·exact hb.2.2 q _ hk
  ·exact hb.2.2 q _ ho⟩,rfl⟩
 have hst:∀ q,q ≠ key→jT σ σ s.heap (insR key (.row k (xs.take n) false) s.heap) q:=fun q hq o' ho' => by
  rcases hl q o' ho' with ⟨e,_⟩|⟨_,ho⟩
  ·exact absurd e hq
  ·exact ⟨o',ho,rfl,rfl,rfl,rfl⟩
 refine (h.killed key).step rfl h.below hZ (fun r av hr => ⟨av,hr,.inl ⟨rfl,fun q hq => hst q ?_⟩⟩) (fun q o' ho' => ?_) (fun p o1 q u hp hq hpq b hb hb' => ?_)
 ·have hr':look r (killR key s.regs) = some av:=hr
  rw [qV0] at hr'
  obtain ⟨v,_,rfl⟩:=map_some hr'
  exact (AV.kill_refs hq).1
 ·rcases hl q o' ho' with ⟨rfl,rfl⟩|⟨hq,ho⟩
  ·refine ⟨⟨ds.take (n * k),?_,hkp,?_⟩,fun b hb => hro.fresh b (hfp0 b hb),?_⟩
   ·show Row w (slv (σ.g q) (xs.take n).length (σ.cap q)) k (xs.take n).length _ (σ.g q)
    rw [hlen]
    exact Row.take hrow hn
   ·show rdR k _ w _ (xs.take n)
    exact (hrd.take n hn).mono (fun b hb _ => (hZ b hb).1)
   ·show ((σ.g q).toList ++ []).Nodup
    rw [List.append_nil]
    cases σ.g q <;> simp
  ·exact RowOK.keep h.ok1 h.rows h.disj ho hZ (fun q' hq' => hst q' (fun e => hnr q o' hq ho (e ▸ hq'))) rfl rfl rfl (fun _ _ => rfl)
 ·have hp2:∃ o2,look p s.heap = some o2∧b ∈ fp σ p o2:=by
   rcases hl p o1 hp with ⟨rfl,rfl⟩|⟨_,ho⟩
   ·exact ⟨_,hk,hfp0 b hb⟩
   ·exact ⟨_,ho,hb⟩
  have hq2:∃ o2,look q s.heap = some o2∧b ∈ fp σ q o2:=by
   rcases hl q u hq with ⟨rfl,rfl⟩|⟨_,ho⟩
   ·exact ⟨_,hk,hfp0 b hb'⟩
   ·exact ⟨_,ho,hb'⟩
  obtain ⟨o2,ho2,hb2⟩:=hp2
  obtain ⟨u2,hu2,hb3⟩:=hq2
  exact h.disj p o2 q u2 ho2 hu2 hpq b hb2 hb3
theorem xR {z d:D} {k:Nat} {xs:List (List D)} (h:d.un = .sl k xs):cellD z (.val d) = some (d,false):=by
 cases d with
 | sl => rfl
 | tag => rfl
 | int => cases h
 | bool => cases h
 | raw => cases h
theorem qJ.regCut (C:CfgOK P cfg) (T:Tab P) {fs:List Fr} {Q:Exit→St→Prop} {id:Nat} (n:Nat) {s1:St} (ha:Work (aopsT cfg T ops (ops.toList.take n) s) (some s1))
  (h:qZ P cfg M ops (ops.toList.drop n) (outK P cfg M fs Q .normal) s1):qJ P cfg M (.region id ops false) fs Q s:=by
 refine qA.region ?_
 have e:ops.toList = ops.toList.take n ++ ops.toList.drop n:=(List.take_append_drop n _).symm
 have cut:∀ (l m:List Oper) (s:St),aopsT cfg T ops l s = some s1→qZ P cfg M ops m (outK P cfg M fs Q .normal) s1→qZ P cfg M ops (l ++ m) (outK P cfg M fs Q .normal) s:=by
  intro l
  induction l with
  | nil => intro m s h1 h2;simp only [aopsT,Option.some.injEq] at h1;subst h1;exact h2
  | cons o l ih =>
   intro m s h1 h2
   simp only [aopsT] at h1
   obtain ⟨s2,h3,h4⟩:=bind_some h1
   exact qZ.stepT C h3 (ih m s2 h4 h2)
 rw [e]
 exact cut _ _ s ha h
theorem qZ.trunc (C:CfgOK P cfg) {o:Oper} {l:List Oper} {Q:St→Prop} {x hi:Operand} {t:TypeId} {i:TyI} {d key m n k:Nat} {xs:List (List D)} {dd:Bool} (ho:o.op = .slice t x none (some hi) none) (hg:o.guard = none) (hd:o.dst = some d) (hdN:d < cfg.N)
  (ht:cfg.sl t = some i) (hx:opv s.regs x = some (.c (.own key m))) (hh:(opv s.regs hi).bind avI = some (n:Int)) (hk:look key s.heap = some (.row k xs dd)) (hle:n ≤ xs.length) (hnr:∀ q u,q ≠ key→look q s.heap = some u→key ∉ u.refs)
  (h:qZ P cfg M ops l Q ⟨insR d (.c (.own key n)) (killR key s.regs),insR key (.row k (xs.take n) false) s.heap⟩):qZ P cfg M ops (o :: l) Q s:=by
 intro w0 Ok σ a w Q' hM hS hQ
 refine wpList_step (fun K hK => ?_)
 have hw:qM ops s.regs o = some true:=by unfold qM;rw [hg]
 rw [xB hS hw]
 simp only [if_true]
 obtain ⟨z,T,_⟩:=C.sl t i ht
 obtain ⟨ti,hti,_,hsz,_⟩:=T.hi
 have hxr:=(qO hS hx).2 _ hk
 obtain ⟨e1,e2⟩:=hxr
 have e1:m = xs.length:=e1
 obtain ⟨hv,h3,h4⟩:=bind_some hh
 have hhi:a.eval hi = .int .i64 n:=(jY.1 (show rdV (Zn σ s.heap w) w (a.eval hi) (.int n) by
  have hr:=qO hS h3
  unfold avI at h4
  split at h4
  ·cases h4;exact hr.2
  ·cases h4)).1
 have hro:=hS.rows key _ hk
 obtain ⟨ds,hrow,_⟩:=hro.row
 have hrow:Row w (slv (σ.g key) xs.length (σ.cap key)) k xs.length ds (σ.g key):=hrow
 obtain ⟨oa,c,ev,k1,k2,k3,k4⟩:=vI hrow
 have hxe:a.eval x = .slice oa m c:=by rw [e2,e1];exact ev
 have hrun:(execOp a.eval o).run P w = .ok (.value (slv (σ.g key) n (σ.cap key))) w:=by
  unfold execOp
  rw [ho]
  have:=run_sliceSl (P:=P) T.ht ⟨ti,hti,hsz⟩ (oa:=oa) (m:=m) (c:=c) (lo:=none) (hi:=some (n:Int)) (by simp) (by simp) (by simp;omega) (by rw [e1];exact k1) w
  simp only [Option.getD_none,Option.getD_some,Option.map_none,Option.map_some] at this
  rw [show (0:Int).toNat = 0 from rfl,Int.toNat_natCast,Nat.sub_zero,Nat.sub_zero,Nat.zero_mul] at this
  have hval:(Value.slice (if c = 0 then oa else oa.map (·.add 0)) n c) = slv (σ.g key) n (σ.cap key):=by
   cases hgk:σ.g key with
   | none =>
    rw [hgk] at k4 hrow
    have h0:=hrow.len0
    have hoa:oa = none:=k4
    have hc0:=k3 hoa
    subst hoa
    have:n = 0:=by omega
    subst this;subst hc0
    rfl
   | some b =>
    rw [hgk] at k4 ev
    have hoa:oa = some ⟨b,0,none⟩:=k4
    unfold slv at ev
    simp only [Value.slice.injEq] at ev
    rw [hoa,← ev.2.2]
    simp [slv,Addr.add]
  rw [← hval]
  simp only [hxe,hhi,Option.map_none,Option.map_some]
  simp [this]
 unfold Oper.wp
 rw [hrun]
 show K (a.put o.dst _) _
 rw [hd]
 have hS2:=hS.trunc hk hle hnr
 refine hK _ _ (h w0 Ok σ _ _ Q' hM (Sim.ins hS2 hdN ⟨by cases σ.g key <;> rfl,fun o' ho' => ?_⟩) hQ)
 rw [qR,if_pos rfl] at ho'
 cases ho'
 have hlen:(xs.take n).length = n:=by rw [List.length_take];omega
 exact ⟨hlen.symm,rfl⟩
theorem qZ.clear (C:CfgOK P cfg) {o:Oper} {l:List Oper} {Q:St→Prop} {x:Operand} {t:TypeId} {i:TyI} {key j m k:Nat} {xs:List (List D)} {dd:Bool} (ho:o.op = .call ⟨.builtin .clear,#[x],#[t]⟩) (hg:o.guard = none) (hd:o.dst = none)
  (ht:cfg.sl t = some i) (hx:opv s.regs x = some (.c (.view key j m))) (hk:look key s.heap = some (.row k xs dd)) (hki:k = i.z.length) (hle:j + m = xs.length)
  (h:qZ P cfg M ops l Q ⟨s.regs,insR key (.row k (xs.take j ++ List.replicate m i.z) false) s.heap⟩):qZ P cfg M ops (o :: l) Q s:=by
 intro w0 Ok σ a w Q' hM hS hQ
 refine wpList_step (fun K hK => ?_)
 have hw:qM ops s.regs o = some true:=by unfold qM;rw [hg]
 rw [xB hS hw]
 simp only [if_true]
 obtain ⟨z,T,hz⟩:=C.sl t i ht
 obtain ⟨_,oa,c,ev,v1,v2,v3,v4⟩:=(qO hS hx).2 _ hk
 have hro:=hS.rows key _ hk
 obtain ⟨ds,hrow,hkp,hrd⟩:=RowOK.rd hS.ok1 hS.rows hS.disj hk
 have hlen:(xs.take j ++ List.replicate m i.z).length = xs.length:=by simp;omega
 obtain ⟨W,hrun,hR,hgr⟩:∃ W,(execOp a.eval o).run P w = .ok (.value (.tuple #[])) W∧Row W (slv (σ.g key) xs.length (σ.cap key)) k xs.length (ds.take (j * k) ++ (List.replicate m (i.z.map zval)).flatten) (σ.g key)∧w.grownBy W (σ.g key):=by
  rcases v4 with rfl|⟨b,hgb,rfl⟩
  ·refine ⟨w,?_,?_,World.grownBy.refl _ _⟩
   ·unfold execOp
    rw [ho]
    cases oa <;> simp [resolve,invoke,builtin,ev,Builtin.clear_,run_underlying T.ht]
   ·have:ds.take (j * k) = ds:=List.take_of_length_le (by rw [hrow.1];simp at hle;rw [hle];exact Nat.le_refl _)
    rw [this];simpa using hrow
  ·rw [hgb] at hrow ⊢
   have ev:a.eval x = .slice (some ⟨b,j * k,none⟩) m c:=ev
   obtain ⟨cs,hcs⟩:∃ cs,cs = (Builtin.zeroCells z.cells m).toList:=⟨_,rfl⟩
   have hcs2:cs = (List.replicate m (i.z.map zval)).flatten:=by
    rw [hcs,← xS0 hz T.hk m]
    have hs:z.cells.size = i.z.length:=by rw [← Array.length_toList,hz.1,List.length_map]
    unfold Builtin.zeroCells madeCells
    rw [hs]
   have hcl:cs.length = m * k:=by rw [hcs2,hki];simp
   have hone:∀ v ∈ cs,v.oneCell' = true:=by
    intro v hv
    rw [hcs2] at hv
    have:=(rep_own hz.2 T.hk w m).rd.one
    exact this v hv
   have hoff:j * k + cs.length ≤ ds.length:=by rw [hrow.1,hcl,← Nat.add_mul,hle];exact Nat.le_refl _
   obtain ⟨r1,r2⟩:=Row.storeCells cs (j * k) hrow hoff
   refine ⟨w.setCells b (j * k) cs,?_,?_,r2⟩
   ·have hst:=run_storeCells_cells (P:=P) b (j * k) cs 0 w (fun q hq => by
     rw [Nat.add_zero]
     have hlt:j * k + q < ds.length:=by omega
     rw [hrow.cells (j * k + q) ds[j * k + q] (List.getElem?_eq_getElem hlt)];rfl) (fun q hq => hrow.frozen _) hone
    rw [Nat.add_zero] at hst
    unfold execOp
    rw [ho]
    cases m with
    | zero =>
     have:cs = []:=by rw [hcs2];rfl
     subst this
     simp [resolve,invoke,builtin,ev,Builtin.clear_,run_underlying T.ht]
     rfl
    | succ m =>
     obtain ⟨ti,hti,hzz,hsz,_⟩:=T.hi
     simp [resolve,invoke,builtin,ev,Builtin.clear_,run_underlying T.ht,zeroValue,typeInfo,hti,hzz,← hcs,hst]
   ·rw [hcs2] at r1 ⊢
    have e:qI ds (j * k) ((List.replicate m (i.z.map zval)).flatten) = ds.take (j * k) ++ (List.replicate m (i.z.map zval)).flatten:=by
     unfold qI
     rw [List.drop_of_length_le (by rw [hrow.1,← hcs2,hcl,← Nat.add_mul,hle];exact Nat.le_refl _),List.append_nil]
    rw [e] at r1
    exact r1
 unfold Oper.wp
 rw [hrun]
 show K (a.put o.dst _) _
 rw [hd]
 have hl:∀ q o',look q (insR key (.row k (xs.take j ++ List.replicate m i.z) false) s.heap) = some o'→(q = key∧o' = .row k (xs.take j ++ List.replicate m i.z) false) ∨ (q ≠ key∧look q s.heap = some o'):=by
  intro q o' ho'
  rw [qR] at ho'
  split at ho'
  ·rename_i e;cases ho';exact .inl ⟨e.symm,rfl⟩
  ·rename_i e;exact .inr ⟨fun e' => e e'.symm,ho'⟩
 have hblk:∀ b,b < w.heap.size→σ.g key ≠ some b→W.heap[b]? = w.heap[b]?:=fun b hb hne => hgr.block b hb (fun e => hne e.symm)
 have hZ:jV σ σ s.heap (insR key (.row k (xs.take j ++ List.replicate m i.z) false) s.heap) w W:=fun b hb => ⟨⟨Nat.lt_of_lt_of_le hb.1 hgr.size,hb.2.1,fun q o' ho' => by
  rcases hl q o' ho' with ⟨rfl,_⟩|⟨_,ho⟩
  ·exact hb.2.2 q _ hk
  ·exact hb.2.2 q _ ho⟩,hblk b hb.1 (hb.2.2 key _ hk)⟩
 have hst:∀ q,jT σ σ s.heap (insR key (.row k (xs.take j ++ List.replicate m i.z) false) s.heap) q:=fun q o' ho' => by
  rcases hl q o' ho' with ⟨rfl,rfl⟩|⟨_,ho⟩
  ·exact ⟨_,hk,rfl,hlen.symm,rfl,rfl⟩
  ·exact ⟨o',ho,rfl,rfl,rfl,rfl⟩
 have hfp0:∀ b ∈ fp σ key (.row k (xs.take j ++ List.replicate m i.z) false),b ∈ fp σ key (.row k xs dd):=by
  intro b hb
  have hb:b ∈ (σ.g key).toList ++ []:=hb
  rw [List.append_nil] at hb
  exact List.mem_append_left _ hb
 refine hK _ _ (h w0 Ok σ _ _ Q' hM ?_ hQ)
 refine hS.step rfl (hS.below.grown hgr (fun b hb => hro.fresh b (qL hb))) hZ (fun r av hr => ⟨av,hr,.inl ⟨rfl,fun q _ => hst q⟩⟩) (fun q o' ho' => ?_) (fun p o1 q u hp hq hpq b hb hb' => ?_)
 ·rcases hl q o' ho' with ⟨rfl,rfl⟩|⟨hq,ho⟩
  ·refine ⟨⟨ds.take (j * k) ++ (List.replicate m (i.z.map zval)).flatten,?_,hkp,?_⟩,fun b hb => hro.fresh b (hfp0 b hb),?_⟩
   ·show Row W (slv (σ.g q) (xs.take j ++ List.replicate m i.z).length (σ.cap q)) k (xs.take j ++ List.replicate m i.z).length _ (σ.g q)
    rw [hlen];exact hR
   ·show rdR k _ W _ (xs.take j ++ List.replicate m i.z)
    refine rdR.append (((hrd.take j (by omega)).step hZ)) ?_
    have:=(rep_own hz.2 T.hk W m).rd
    rw [← hki] at this
    exact this.mono (fun b hb _ => by cases hb)
   ·show ((σ.g q).toList ++ []).Nodup
    rw [List.append_nil]
    cases σ.g q <;> simp
  ·refine RowOK.keep hS.ok1 hS.rows hS.disj ho hZ (fun q' _ => hst q') rfl rfl rfl (fun b hb => hblk b (yO hS ho b (qL hb)) (fun e => ?_))
   exact hS.disj key _ q o' hk ho (fun e => hq e.symm) b (qL e) (qL hb)
 ·have hp2:∃ o2,look p s.heap = some o2∧b ∈ fp σ p o2:=by
   rcases hl p o1 hp with ⟨rfl,rfl⟩|⟨_,ho⟩
   ·exact ⟨_,hk,hfp0 b hb⟩
   ·exact ⟨_,ho,hb⟩
  have hq2:∃ o2,look q s.heap = some o2∧b ∈ fp σ q o2:=by
   rcases hl q u hq with ⟨rfl,rfl⟩|⟨_,ho⟩
   ·exact ⟨_,hk,hfp0 b hb'⟩
   ·exact ⟨_,ho,hb'⟩
  obtain ⟨o2,ho2,hb2⟩:=hp2
  obtain ⟨u2,hu2,hb3⟩:=hq2
  exact hS.disj p o2 q u2 ho2 hu2 hpq b hb2 hb3
end
end
section
section
variable {P:Program} {cfg:Cfg} {w0:W0} {w w':World} {Ok:Nat→Prop} {N:Nat} {σ σ':Asg} {s s':St} {a:Act} {M:Nat→Prop}
theorem jX.split {A:Nat→Prop}:∀ {pre:List (List D)} {ds:List (List D)} {vs:List Value},jX A w (pre ++ ds) vs→∃ vs1 vs2,vs = vs1 ++ vs2∧jX A w pre vs1∧jX A w ds vs2
 | [],ds,vs,h => ⟨[],vs,rfl,rfl,h⟩
 | d :: pre,ds,vs,⟨v,us,e,h1,h2⟩ => by
  obtain ⟨us1,us2,e2,h3,h4⟩:=jX.split h2
  subst e2;subst e
  exact ⟨v :: us1,us2,rfl,⟨v,us1,rfl,h1,h3⟩,h4⟩
theorem jX.join {A:Nat→Prop}:∀ {pre:List (List D)} {ds:List (List D)} {vs1 vs2:List Value},jX A w pre vs1→jX A w ds vs2→jX A w (pre ++ ds) (vs1 ++ vs2)
 | [],ds,vs1,vs2,h,k => by rw [show vs1 = [] from h];exact k
 | d :: pre,ds,vs1,vs2,⟨v,us,e,h1,h2⟩,k => by
  subst e
  exact ⟨v,us ++ vs2,rfl,h1,jX.join h2 k⟩
theorem Bel.nil (h:Bel ⟨w,fun b => (none:Option Nat) = some b⟩ w'):Below w.heap.size w w' :=
 ⟨h.os,h.tape,h.output,h.size,fun i hi => h.block i hi (fun e => nomatch e)⟩
theorem AOw.nil {g:FuncId} {pre post:List (List D)} {k:Nat} {Q:List Res→Prop} (h:AOw P g pre k [] post Q) (hk:0 < k):AFn P g (pre ++ [.raw (.slice none 0 0)] :: post) Q:=by
 refine ⟨h.call,fun A w vs hA hr => ?_⟩
 obtain ⟨vs1,vs2,e,h1,v,us,e2,h2,h3⟩:=jX.split hr
 subst e2;subst e
 obtain ⟨rfl,_⟩:=yM.1 (show rdV A w v (.raw (.slice none 0 0)) from h2)
 refine (h.fn A w vs1 us none 0 [] hA h1 h3 ⟨(Nat.zero_mul k).symm,.inl ⟨rfl,rfl,rfl⟩⟩ hk (by first|exact ⟨0,hk,rfl⟩|exact ⟨0,hk,trivial⟩|exact ⟨0,hk,by simp [rdL]⟩) (fun b e => nomatch e)).mono ?_
 rintro e w' ⟨v,rs,rfl,hQ,hb,ho⟩
 have e:(W0.mine ⟨w,fun b => (none:Option Nat) = some b⟩) = fun b => w.heap.size ≤ b:=by funext b;simp [W0.mine]
 rw [e] at ho
 exact ⟨v,rs,rfl,hQ,hb.nil,ho⟩
theorem n_callR (C:CfgOK P cfg) (h:Sim w0 Ok N σ s a w) {o:Oper} {f:Operand} {args:Array Operand} {ts:Array TypeId} {g:FuncId} (ho:o.op = .call ⟨.value f,args,ts⟩) (hf:((opv s.regs f).bind avD).bind fnId = some g)
  {ds:List (List D)} (hd:jX (Zn σ s.heap w) w ds (args.toList.map a.eval)) {Q0:List Res→Prop} (hfn:AFn P g ds Q0)
  {K:Act→World→Prop} {Q:Exit→Act→World→Prop} {key:Nat} (hfr:∀ rs,Q0 rs→∀ q ob,look q (qW key rs).2 = some ob→Free s q)
  (hK:∀ rs,Q0 rs→∀ v w' σ',relAV σ' ((qW key rs).2 ++ s.heap) w' (outAV (qW key rs).1) v→Sim w0 Ok N σ' ⟨s.regs,(qW key rs).2 ++ s.heap⟩ a w'→K (a.put o.dst v) w'):o.wp P a w K Q:=by
 have hfv:a.eval f = .func (.func g) #[] #[]:=qC0 h hf
 have hrun:(execOp a.eval o).run P w = .ok (.enter g (args.map a.eval)) w:=by
  unfold execOp
  rw [ho]
  simp [resolve,Deferred.ofValue,hfv,invoke,hfn.call]
 obtain ⟨A,hA,hAa,hAz⟩:∃ A:Nat→Prop,(∀ b,A b→b < w.heap.size)∧jX A w ds (args.toList.map a.eval)∧((∃ rs,Q0 rs∧rs.all Res.scalar = false)→∀ b,A b→Zn σ s.heap w b):=by
  exact ⟨Zn σ s.heap w,fun _ h => h.1,hd,fun _ b hb => hb⟩
 have hcall:=hfn.fn A w (args.toList.map a.eval) hA hAa
 unfold Oper.wp
 rw [hrun,Oper.upon_enter]
 have e:(args.toList.map a.eval).toArray = args.map a.eval:=by rw [← Array.toList_map,Array.toArray_toList]
 rw [← e]
 refine hcall.mono ?_
 rintro e w' ⟨v,rs,rfl,hQ,hw,us,G,X,rfl,hG1,hG2,hrel⟩
 obtain ⟨σ',k0,k1,k2,k3,k4⟩:=jK0 key σ hrel hG1
 have hgn:∀ q u,look q (qW key rs).2 = some u→∀ b,σ'.g q = some b→w.heap.size ≤ b:=fun q u hq b hb => hG2 b ((k2 q u hq).2.2.1 b (qL hb))
 have hZ1:(∀ b,A b→Zn σ s.heap w b)→∀ b,((A b ∨ w.heap.size ≤ b)∧b ∉ X)→b < w'.heap.size→Zn σ' ((qW key rs).2 ++ s.heap) w' b:=by
  intro hAz b hb hlt
  have hz:=jV.grown hw h hAz b hb.1 hlt
  refine ⟨hlt,by rw [k0];exact hz.2.1,fun q u hq e => ?_⟩
  rw [yU] at hq
  cases hn:look q (qW key rs).2 with
  | some o' => exact hb.2 ((k2 q o' hn).2.2.2 b e)
  | none =>
   rw [hn] at hq
   rw [(k1 q hn).1] at e
   exact hz.2.2 q u hq e
 refine hK rs hQ _ w' σ' (out_rel ?_) ?_
 ·by_cases hsc:rs.all Res.scalar = true
  ·exact k4.relS hsc
  ·exact k4.rel (hZ1 (hAz ⟨rs,hQ,by simpa using hsc⟩))
 ·refine h.news k0 hw (hfr rs hQ) k1 (fun q o' hq => ?_) (fun q o' hq => ?_) k3
  ·obtain ⟨⟨dd,k,xs,d,b1,b2,b3,b4⟩,_⟩:=k2 q o' hq
   subst b1
   refine ⟨dd,b2,b3,?_⟩
   show if d = true then ownR k w' dd xs (σ'.F q) else rdR k (Zn σ' ((qW key rs).2 ++ s.heap) w') w' dd xs
   cases d with
   | true => rw [if_pos rfl];exact b4
   | false =>
    rw [if_neg (by decide)]
    have b4':rdR k (fun b => (A b ∨ w.heap.size ≤ b)∧b ∉ X) w' dd xs:=b4
    have hsc:rs.all Res.scalar = false:=by
     have key:∀ {rs:List Res} {key:Nat} {q:Nat},look q (qW key rs).2 = some (.row k xs false)→rs.all Res.scalar = false:=by
      intro rs
      induction rs with
      | nil => intro key q hq;cases hq
      | cons r rs ih =>
       intro key q hq
       cases r with
       | val d => rw [List.all_cons,ih (by simpa [qW,resAC] using hq),Bool.and_false]
       | own kk ys d =>
        simp only [qW,resAC,List.singleton_append,look] at hq
        split at hq
        ·cases hq;rfl
        ·rw [List.all_cons,ih hq,Bool.and_false]
     exact key hq
    exact b4'.mono (fun b hb hlt => hZ1 (hAz ⟨rs,hQ,hsc⟩) b hb hlt)
  ·obtain ⟨_,b5,b6,_⟩:=k2 q o' hq
   exact ⟨fun b hb => hG2 b (b6 b hb),b5⟩
theorem qZ.callNilP (C:CfgOK P cfg) {ops:Array Oper} {o:Oper} {l:List Oper} {Q:St→Prop} {d:Nat} {f:Operand} {args:Array Operand} {ts:Array TypeId} {g:FuncId} (hb:qM ops s.regs o = some true) (hdN:d < cfg.N)
  (ho:o.op = .call ⟨.value f,args,ts⟩) (hod:o.dst = some d) (hf:((opv s.regs f).bind avD).bind fnId = some g)
  {xs:List Operand} {tx:List TypeId} {pre:List (List D)} {ys:List Operand} {ty:List TypeId} {post:List (List D)} (ha:args.toList = xs ++ .const (.slice none 0 0) :: ys) (hpre:aargs cfg (fun k => look k s.heap) s.regs xs tx = some pre) (hr:jQ s.regs xs = []) (hpost:aargs cfg (fun k => look k s.heap) s.regs ys ty = some post) (hr2:jQ s.regs ys = [])
  {rs:List Res} (hfn:AFn P g (pre ++ [.raw (.slice none 0 0)] :: post) (· = rs)) (hfr:(qW d rs).2.all (fun p => fresh s p.1) = true)
  (h:qZ P cfg M ops l Q (s.got d rs)):qZ P cfg M ops (o :: l) Q s:=by
 intro w0 Ok σ a w Q' hM hS hQ
 refine wpList_step (fun K hK => ?_)
 rw [xB hS hb]
 simp only [if_true]
 have hrel:jX (Zn σ s.heap w) w (pre ++ [.raw (.slice none 0 0)] :: post) (args.toList.map a.eval):=by
  rw [ha,List.map_append]
  exact jX.join ((kC C hS hpre).2 hr) ⟨_,_,rfl,yM.2 ⟨rfl,rfl⟩,(kC C hS hpost).2 hr2⟩
 refine n_callR C hS (key:=d) ho hf hrel hfn (fun rs' e => e ▸ fun q ob hq => xO (List.all_eq_true.1 hfr _ (yD hq))) (fun rs' e v w' σ' hv hS' => ?_)
 subst e
 rw [hod]
 have hsub:∀ k o',look k (yT (qW d rs').2 s.heap) = some o'→look k ((qW d rs').2 ++ s.heap) = some o':=fun k o' ho' => by rw [kN] at ho';exact ho'
 exact hK _ _ (h w0 Ok σ' _ _ Q' hM (Sim.ins (hS'.forget (fun _ _ h => h) hsub) hdN (hv.sub hsub)) hQ)
end
noncomputable def atOwn (A:List (List D)) (k:Nat) (X:List (List D)) (B:List (List D)) (R:List Res) (a:List (List D)) (k':Nat) (x:List (List D)) (b:List (List D)):Option (List Res × Option (List (List D))):=by
 classical
 exact if a = A∧k' = k∧x = X∧b = B then some (R,Option.none) else Option.none
theorem vM (A:List (List D)) (k:Nat) (X:List (List D)) (B:List (List D)) (R:List Res):atOwn A k X B R A k X B = some (R,Option.none):=by
 unfold atOwn;rw [if_pos ⟨rfl,rfl,rfl,rfl⟩]
theorem atOwn_some {A:List (List D)} {k:Nat} {X:List (List D)} {B:List (List D)} {R:List Res} {a:List (List D)} {k':Nat} {x b:List (List D)} {r:List Res × Option (List (List D))} (h:atOwn A k X B R a k' x b = some r):a = A∧k' = k∧x = X∧b = B∧r = (R,Option.none):=by
 unfold atOwn at h
 split at h
 ·rename_i h1
  exact ⟨h1.1,h1.2.1,h1.2.2.1,h1.2.2.2,(Option.some.inj h).symm⟩
 ·exact nomatch h
noncomputable def Tab.own' {P:Program} (T:Tab P) (g:FuncId) (n:Nat) {A:List (List D)} {k:Nat} {X B:List (List D)} {R:List Res} (h:AOw P g A k X B (· = R)):Tab P :=
 T.own g ⟨false,n,atOwn A k X B R⟩ (fun pre k' xs post r _ e => by
  obtain ⟨rfl,rfl,rfl,rfl,rfl⟩:=atOwn_some e
  exact h.toEf)
end
section
theorem foldS_len {α:Type} (f:α→List Spl) (m:α→Nat):∀ (bs:List α) (A:List Spl),(∀ b ∈ bs,(f b).length ≤ 2 ^ m b)→(foldS A (bs.map f)).length ≤ A.length * 2 ^ (bs.map m).sum
 | [],A,_ => by simp [foldS]
 | b :: bs,A,h => by
  have h1:=foldS_len f m bs (A.flatMap fun s => (f b).map (catS s)) (fun x hx => h x (by simp [hx]))
  have h2:(A.flatMap fun s => (f b).map (catS s)).length = A.length * (f b).length:=by
   clear h1
   induction A with
   | nil => simp
   | cons a A ih => rw [List.flatMap_cons,List.length_append,ih,List.length_map,List.length_cons,Nat.succ_mul,Nat.add_comm]
  rw [h2] at h1
  have e:((b :: bs).map m).sum = m b + (bs.map m).sum:=by simp
  rw [e,Nat.pow_add]
  refine Nat.le_trans h1 ?_
  rw [← Nat.mul_assoc]
  exact Nat.mul_le_mul_right _ (Nat.mul_le_mul_left _ (h b (by simp)))
theorem wP:∀ (n:Nat) {t:List Int},t.length ≤ n→qU t→(split t).length ≤ 2 ^ t.length
 | 0,t,hn,h => by have:=h.pos;omega
 | n + 1,t,hn,h => by
  rw [jU0 h,List.length_append,List.length_map,List.length_singleton]
  have h1:=foldS_len split List.length (brs t) [([],[])] (fun b hb => wP n (by have:=xS h b hb;omega) (yB h b hb))
  have hb:=wK h
  have h2:(prodS ((brs t).map split)).length ≤ 2 ^ qX (brs t):=by
   have:(foldS [([],[])] ((brs t).map split)).length ≤ 1 * 2 ^ qX (brs t):=h1
   rw [Nat.one_mul] at this;exact this
  rw [← hb,Nat.pow_succ]
  have:0 < 2 ^ qX (brs t):=Nat.pow_pos (by decide)
  omega
theorem vE {bs:List (List Int)} (h:∀ b ∈ bs,qU b) (h8:qX bs ≤ 8):(prodS (bs.map split)).length ≤ 256:=by
 have h1:=foldS_len split List.length bs [([],[])] (fun b hb => wP _ (Nat.le_refl _) (h b hb))
 have h2:(prodS (bs.map split)).length ≤ 2 ^ qX bs:=by
  have:(foldS [([],[])] (bs.map split)).length ≤ 1 * 2 ^ qX bs:=h1
  rw [Nat.one_mul] at this;exact this
 exact Nat.le_trans h2 (Nat.pow_le_pow_right (by decide) h8)
theorem kJ {bs:List (List Int)} (h:∀ b ∈ bs,qU b):∀ s ∈ prodS (bs.map split),xY (qX bs) s:=fun s hs => by
 have:=jF0 split List.length bs [([],[])] 0 (fun b hb => vP _ (Nat.le_refl _) (h b hb)) (fun s hs => by
  obtain rfl:=List.mem_singleton.1 hs
  exact ⟨by simp,rfl⟩) s hs
 rw [Nat.zero_add] at this
 exact this
theorem xY.nrm {n:Nat} {s:Spl} (h:xY n s):xY n (nrmS s):=by
 refine ⟨fun t ht => h.1 t ?_,?_⟩
 ·unfold nrmS at ht
  simp only [List.mem_append,xC] at ht ⊢
  exact ht
 ·unfold nrmS
  simp only
  rw [wJ (yQ _),wJ (yQ _)]
  exact h.2
theorem wW:∀ {f:List (List Int)},(∀ t ∈ f,qU t)→f.length ≤ qX f
 | [],_ => Nat.le_refl _
 | t :: f,h => by
  have h1:=(h t (by simp)).pos
  have h2:=wW (f:=f) (fun x hx => h x (by simp [hx]))
  have:qX (t :: f) = t.length + qX f:=rfl
  rw [this,List.length_cons];omega
theorem xY.ha {n:Nat} {s:Spl} (h:xY n s) (hn:n ≤ 9):HaS s:=by
 have h1:=wW (f:=s.1) (fun t ht => (h.1 t (by simp [ht])).1)
 have h2:=wW (f:=s.2) (fun t ht => (h.1 t (by simp [ht])).1)
 have h3:=h.2
 exact ⟨⟨by omega,by omega⟩,⟨by omega,by omega⟩⟩
theorem gath_ok {L:List Spl} {n:Nat} (hL:∀ s ∈ L,xY n s) (hn:n ≤ 9):∀ p ∈ gathS L,1 ≤ p.2∧HaS p.1:=fun p hp => by
 have h:=yC L
 refine ⟨(h.cnt p hp).1,?_⟩
 obtain ⟨s,hs,e⟩:=List.mem_map.1 (h.key p hp)
 rw [← e]
 exact (hL s hs).nrm.ha hn
theorem wN {L:List Spl} {n:Nat} (hL:∀ s ∈ L,xY n s):∀ p ∈ gathS L,1 ≤ p.2∧p.2 ≤ L.length∧xY n p.1:=fun p hp => by
 have h:=yC L
 have hc:=h.cnt p hp
 rw [List.length_map] at hc
 refine ⟨hc.1,hc.2,?_⟩
 obtain ⟨s,hs,e⟩:=List.mem_map.1 (h.key p hp)
 rw [← e]
 exact (hL s hs).nrm
theorem gath_exp (L:List Spl):(expN (gathS L)).length = L.length:=by rw [(yC L).2.length_eq,List.length_map]
theorem gath_one:gathS [([],[])] = [(([],[]),1)]:=IsN.ext xD (yC _) one_is (List.Perm.refl _)
theorem prodS_snoc (Ls:List (List Spl)) (L:List Spl):prodS (Ls ++ [L]) = (prodS Ls).flatMap fun s => L.map (catS s):=by unfold prodS;rw [List.foldl_append];rfl
theorem times_gath (Ls:List (List Spl)) (L:List Spl):timesN cmpS mulS (gathS (prodS Ls)) (gathS L) = gathS (prodS (Ls ++ [L])):=by
 refine IsN.ext xD (IsN.times xD mulS (yC _) (yC _)) (yC _) ?_
 rw [prodS_snoc,nrm_flat]
theorem vL {α:Type} {l:List α} {i:Nat} {P:α→Prop} (h:∀ b ∈ l,P b):∀ b ∈ l.take i,P b:=fun b hb => h b (List.mem_of_mem_take hb)
theorem yP0 (l:List (List Int)) (i:Nat):qX (l.take i) ≤ qX l:=by
 conv => rhs;rw [← List.take_append_drop i l,vG]
 omega
theorem a_l03Parts (t:List Int) (h:qU t) (hl:t.length ≤ 1000):AFn Tryz.prog 230 [eL t] (· = [.own 1 ((brs t).map eL) true]) :=
 afn_L_oo (enters_of Tryz.func230 rfl rfl) (fun u w h' => xC0 u t w h' h (by omega))
theorem a_l03Branches (t:List Int) (h:qU t) (hc:canon t = t) (hl:t.length ≤ 1000):AFn Tryz.prog 192 [eL t] (· = [.own 1 ((sortC cmpT (brs t)).map eL) true]):=by
 have h1:=yI0 t h hl
 have h2:=a_l03Parts t h hl
 have hb:=wK h
 have h3:=a_l03Sort (brs t) (by have:=brs_few h;omega) (fun b hb' => by have:=jL hb';omega)
 rw [hc] at h1
 simp only [eL,eLL] at h1 h2 h3
 refine AFn.of_runs (qQ 7) Tryz.func192 rfl rfl rfl gz ?_
 have hres:Tryz.f192.results.toList = [.tmp 2]:=rfl
 have hrts:Tryz.f192.resultTypes.toList = [36]:=rfl
 simp only [qV,qT,eL,eI,eLL,eB,Nat.zero_add,Nat.reduceAdd]
 intro M
 refine qJ.of ?_
 refine gw62 ?_
 (refine Ends.mk (by simp) (rs:=?_) (ks:=?_) hres hrts ?_ ?_ ?_;rotate_left 2;(focus (simp only [Ze,Zg,Zi,seval,reduceCtorEq,Nat.reduceEqDiff,forest];with_reducible rfl));(focus simp);focus (first|with_reducible rfl|(simp only [Zv,forest];done)))
theorem xB0 (n:Nat) (hT:∀ b,qU b→canon b = b→b.length ≤ n→AFn Tryz.prog 132 [eL b] (· = [.val (.sl 3 ((gathS (split b)).map eSp))])) (bs:List (List Int)) (hb:∀ b ∈ bs,qU b∧canon b = b∧b.length ≤ n) (h8:qX bs ≤ 8) :
  AFn Tryz.prog 66 [eLL bs] (· = [.val (.sl 3 ((gathS (prodS (bs.map split))).map eSp))]):=by
 have hlev:∀ b ∈ bs,qU b:=fun b hb' => (hb b hb').1
 have hbl:=wW hlev
 refine AFn.of_runs (qQ 21) Tryz.func66 rfl rfl rfl gz ?_
 have hres:Tryz.f66.results.toList = [.tmp 2]:=rfl
 have hrts:Tryz.f66.resultTypes.toList = [33]:=rfl
 simp only [qV,qT,eL,eI,eLL,eB,Nat.zero_add,Nat.reduceAdd]
 intro M
 refine qJ.of ?_
 refine gw36 ?_
 refine qJ.frz 3 ?_
 refine qJ.fits (s0:=⟨[(0,.c (.val (.sl 1 (bs.map eL)))),(3,.c (.val (.sl 3 [[.sl 1 [],.sl 1 [],.int 1]]))),(4,.c (.val (.int 0)))],[]⟩) ?_ ?_
 ·exact gw55
 refine qJ.loop (β:=Nat) (γ:=Unit) (fun i => ⟨[(0,.c (.val (.sl 1 (bs.map eL)))),(3,.c (.val (.sl 3 ((gathS (prodS ((bs.take i).map split))).map eSp)))),(4,.c (.val (.int i)))],[]⟩) (fun i => i ≤ bs.length) (fun i => bs.length - i)
  (fun _ => ⟨[(3,.c (.val (.sl 3 ((gathS (prodS (bs.map split))).map eSp))))],[]⟩) (fun _ => True) 0 (Nat.zero_le _) ?_ ?_ ?_
 ·exact gw63 (show prodS [] = [([],[])] from rfl)
 ·intro i hi
  have hi:i ≤ bs.length:=hi
  have hw:=qB (n:=i) (by omega)
  by_cases h:i < bs.length
  ·have i1:((i:Int) < (bs.length:Int)) = True:=eq_true (by omega)
   have i2:((0:Int) ≤ (i:Int)) = True:=eq_true (by omega)
   obtain ⟨b,hbe⟩:∃ b,b = bs[i]:=⟨_,rfl⟩
   have hmem:b ∈ bs:=by rw [hbe];exact List.getElem_mem _
   have hg:(bs.map eL)[i]? = some [.sl 1 (b.map eI)]:=by rw [qD h,hbe];rfl
   have hle:(bs.map eL).length = bs.length:=List.length_map _
   obtain ⟨hb1,hb2,hb3⟩:=hb b hmem
   have hb4:b.length ≤ 8:=by have:=jL hmem;omega
   have ht:=hT b hb1 hb2 hb3
   have hX:=yP0 bs i
   have hlevX:=vL (i:=i) hlev
   have htm:=a_l05Times (gathS (prodS ((bs.take i).map split))) (gathS (split b)) (gath_ok (kJ hlevX) (by omega)) (gath_ok (vP _ (Nat.le_refl _) hb1) (by omega))
    (by rw [gath_exp];have:=vE hlevX (by omega);omega)
    (by rw [gath_exp];have:=wP _ (Nat.le_refl _) hb1;have h2:2 ^ b.length ≤ 2 ^ 8:=Nat.pow_le_pow_right (by decide) hb4;omega)
   rw [times_gath] at htm
   have htk:(bs.take (i + 1)).map split = (bs.take i).map split ++ [split b]:=by rw [hbe,List.take_succ_eq_append_getElem h,List.map_append];rfl
   simp only [eL] at ht
   refine gw64 (Y5 i1 i2 hg hw hle) ?_
   refine qY.on (i + 1) ⟨h,by omega⟩ ?_
   rw [htk]
   exact gw7 Y0
  ·have i1:((i:Int) < (bs.length:Int)) = False:=eq_false (by omega)
   obtain rfl:i = bs.length:=by omega
   rw [List.take_length]
   refine gw35 i1 ?_
   refine qY.out () trivial ?_
   exact gw7 Y0
 ·rintro _ _
  refine gw36 ?_
  exact gw2
theorem tree_sum {t:List Int} (h:qU t) (hc:canon t = t):(gathS (prodS ((sortC cmpT (brs t)).map split))).foldl (fun s p => putN cmpS s p.2 (rootS p.1)) [(([t],[]),1)] = gathS (split t):=by
 have hf:=spec_tree h hc (fun b => gathS (split b)) (fun b _ => yC _)
 unfold putsS at hf
 rw [spec_forest (sortC cmpT (brs t)) (fun b => gathS (split b)) (fun b _ => rfl)] at hf
 exact hf
theorem putM_is (L:List (Spl × Int)) (P:List (Spl × Int)) {M:List Spl} (hL:IsN cmpS L M) (hP:∀ p ∈ P,1 ≤ p.2):IsN cmpS (P.foldl (fun s p => putN cmpS s p.2 (rootS p.1)) L) (M ++ expN (P.map fun p => (rootS p.1,p.2))):=by
 have h2:=IsN.puts xD (P.map fun p => (rootS p.1,p.2)) hL (fun p hp => by
  obtain ⟨q,hq,rfl⟩:=List.mem_map.1 hp
  exact hP q hq)
 rw [List.foldl_map] at h2
 exact h2
theorem canon_brs {t:List Int} (h:qU t) (hc:canon t = t):∀ b ∈ brs t,canon b = b:=fun b hb => by
 have hl:∀ c ∈ sortC cmpD ((brs t).map canon),qU c:=fun c hc' => by
  rw [xC,List.mem_map] at hc'
  obtain ⟨x,hx,rfl⟩:=hc'
  exact vQ (yB h x hx)
 have e:=kO h
 rw [hc] at e
 rw [e,yV0 hl,xC,List.mem_map] at hb
 obtain ⟨x,hx,rfl⟩:=hb
 exact qS0 (yB h x hx)
theorem root_sm {s:Spl} {n:Nat} (h:xY n s) (hn:n ≤ 8):SmS (rootS s):=by
 have h1:=(h.ha (by omega)).1.sm
 have hl:qU (qC s.2):=wM fun b hb => (h.1 b (by simp [hb])).1
 refine ⟨h1,by simp [rootS],?_⟩
 show (canon (qC s.2)).length + 0 ≤ 100
 rw [qJ0 hl,kY]
 have:=h.2;omega
theorem a_l05Tree:∀ (n:Nat),n ≤ 8→∀ t:List Int,qU t→canon t = t→t.length ≤ n→AFn Tryz.prog 132 [eL t] (· = [.val (.sl 3 ((gathS (split t)).map eSp))])
 | 0,_,t,h,_,hn => by have:=h.pos;omega
 | n + 1,hn8,t,h,hc,hn => by
  have hsb:=wK h
  have hperm:=yQ (c:=cmpT) (brs t)
  have hlev:∀ b ∈ sortC cmpT (brs t),qU b:=fun b hb => yB h b (xC.1 hb)
  have hs8:qX (sortC cmpT (brs t)) ≤ 7:=by rw [wJ hperm];omega
  have hbr:=AFn.valT (a_l03Branches t h hc (by omega))
  have hfo:=xB0 n (fun b h1 h2 h3 => a_l05Tree n (by omega) b h1 h2 h3) (sortC cmpT (brs t)) (fun b hb => by
   have hb':=xC.1 hb
   exact ⟨yB h b hb',canon_brs h hc b hb',by have:=xS h b hb';omega⟩) (by omega)
  have how:=AFn.valT (a_l01Own t (by omega))
  have hgood:=wN (kJ hlev)
  have hlen:=vE hlev (by omega)
  have hfin:=tree_sum h hc
  have hBl:(gathS (prodS ((sortC cmpT (brs t)).map split))).length ≤ 256:=by have:=(yC (prodS ((sortC cmpT (brs t)).map split))).len;rw [List.length_map] at this;omega
  have hBe:=gath_exp (prodS ((sortC cmpT (brs t)).map split))
  obtain ⟨B,hB⟩:∃ B,B = gathS (prodS ((sortC cmpT (brs t)).map split)):=⟨_,rfl⟩
  rw [← hB] at hgood hfin hfo hBl hBe
  have hone:IsN cmpS [((([t],[]):Spl),1)] [([t],[])]:=⟨⟨by simp,by simp⟩,List.Perm.refl _⟩
  have hF:∀ j,((B.take j).foldl (fun s p => putN cmpS s p.2 (rootS p.1)) [(([t],[]),1)]).length ≤ 1000000∧∀ q ∈ (B.take j).foldl (fun s p => putN cmpS s p.2 (rootS p.1)) [(([t],[]),1)],(1 ≤ q.2∧q.2 ≤ 1000000000)∧SmS q.1:=fun j => by
   have hP:∀ p ∈ B.take j,1 ≤ p.2∧p.2 ≤ 256∧SmS (rootS p.1):=fun p hp => by
    obtain ⟨g1,g2,g3⟩:=hgood p (List.mem_of_mem_take hp)
    exact ⟨g1,by omega,root_sm g3 (by omega)⟩
   have hi:=putM_is _ (B.take j) hone (fun p hp => (hP p hp).1)
   have hlt:(expN ((B.take j).map fun p => (rootS p.1,p.2))).length ≤ 256 * 256:=by
    have key:∀ (X:List (Spl × Int)),(∀ p ∈ X,p.2 ≤ 256)→(expN (X.map fun p => (rootS p.1,p.2))).length ≤ 256 * X.length:=by
     intro X
     induction X with
     | nil => intro _;simp [expN]
     | cons x X ih =>
      intro hx
      have h1:=ih (fun p hp => hx p (by simp [hp]))
      have h2:=hx x (by simp)
      rw [List.map_cons,yY,List.length_append,List.length_replicate,List.length_cons,Nat.mul_succ]
      show x.2.toNat + _ ≤ _
      omega
    have h1:=key (B.take j) (fun p hp => (hP p hp).2.1)
    have h2:(B.take j).length ≤ 256:=by rw [List.length_take];omega
    exact Nat.le_trans h1 (Nat.mul_le_mul_left _ h2)
   have hM:([(([t],[]):Spl)] ++ expN ((B.take j).map fun p => (rootS p.1,p.2))).length ≤ 1 + 256 * 256:=by rw [List.length_append,List.length_singleton];omega
   refine ⟨Nat.le_trans hi.len (by omega),fun q hq => ?_⟩
   have hcq:=hi.cnt q hq
   refine ⟨⟨hcq.1,by omega⟩,?_⟩
   have hk:=hi.key q hq
   rcases List.mem_append.1 hk with hk|hk
   ·rw [List.mem_singleton.1 hk]
    exact ⟨⟨by simp,by show t.length + 0 ≤ 100;omega⟩,by show SmF [];decide⟩
   ·obtain ⟨r,hr,e⟩:=expN_mem hk
    obtain ⟨p,hp,rfl⟩:=List.mem_map.1 hr
    rw [← e]
    exact (hP p hp).2.2
  simp only [eL,eLL] at hbr hfo how
  refine AFn.of_runs (qQ 41) Tryz.func132 rfl rfl rfl gz ?_
  have hres:Tryz.f132.results.toList = [.tmp 2]:=rfl
  have hrts:Tryz.f132.resultTypes.toList = [33]:=rfl
  simp only [qV,qT,eL,eI,eLL,eB,Nat.zero_add,Nat.reduceAdd]
  intro M
  refine qJ.of ?_
  refine gw65 ?_
  refine qJ.regCut (qQ 41) (Tab.none.at' 133 how) 3 (s1:=?_) ?_ ?_
  rotate_left 1
  focus (refine Work.mk ?_;simp only [Zg,Zi,seval,reduceCtorEq,Nat.reduceEqDiff];with_reducible rfl)
  simp only [List.toList_toArray,List.drop_succ_cons,List.drop_zero]
  refine qZ.frzs [11] ?_
  refine qZ.opsT (qQ 41) (T:=Tab.none) (s':=?_) ?_ ?_
  rotate_left 1
  focus (simp only [Zg,Zi,seval,reduceCtorEq,Nat.reduceEqDiff];with_reducible rfl)
  refine gw66 ?_
  refine qJ.frz 4 ?_
  refine qJ.fits (s0:=⟨[(3,.c (.val (.sl 3 (B.map eSp)))),(4,.c (.val (.sl 3 [[.sl 1 [[.sl 1 (t.map eI)]],.sl 1 [],.int 1]]))),(5,.c (.val (.int 0)))],[]⟩) ?_ ?_
  ·exact gw55
  refine qJ.loop (β:=Nat) (γ:=Unit) (fun j => ⟨[(3,.c (.val (.sl 3 (B.map eSp)))),(4,.c (.val (.sl 3 (((B.take j).foldl (fun s p => putN cmpS s p.2 (rootS p.1)) [(([t],[]),1)]).map eSp)))),(5,.c (.val (.int j)))],[]⟩) (fun j => j ≤ B.length) (fun j => B.length - j)
   (fun _ => ⟨[(4,.c (.val (.sl 3 ((gathS (split t)).map eSp))))],[]⟩) (fun _ => True) 0 (Nat.zero_le _) ?_ ?_ ?_
  ·exact gw67
  ·intro i hi
   have hi:i ≤ B.length:=hi
   have hw:=qB (n:=i) (by omega)
   by_cases h':i < B.length
   ·have i1:((i:Int) < (B.length:Int)) = True:=eq_true (by omega)
    have i2:((0:Int) ≤ (i:Int)) = True:=eq_true (by omega)
    obtain ⟨z,hz⟩:∃ z,z = B[i]:=⟨_,rfl⟩
    have hgz:=hgood B[i] (List.getElem_mem _)
    rw [← hz] at hgz
    obtain ⟨g1,g2,g3⟩:=hgz
    have hgz:=(g3.ha (by omega)).2.sm
    have hlz:∀ b ∈ z.1.2,qU b:=fun b hb => (g3.1 b (by simp [hb])).1
    have hroot:=AFn.valT (a_l03Root z.1.2 hgz hlz)
    have hst:(B.take (i + 1)).foldl (fun s p => putN cmpS s p.2 (rootS p.1)) [(([t],[]),1)] = putN cmpS ((B.take i).foldl (fun s p => putN cmpS s p.2 (rootS p.1)) [(([t],[]),1)]) z.2 (rootS z.1):=by
     rw [hz,List.take_succ_eq_append_getElem h',List.foldl_append];rfl
    have hFi:=hF i
    obtain ⟨K,hK⟩:∃ K,K = (B.take i).foldl (fun s p => putN cmpS s p.2 (rootS p.1)) [(([t],[]),1)]:=⟨_,rfl⟩
    rw [← hK] at hst hFi ⊢
    have hput:=a_l05Put K z.2 (rootS z.1) hFi.1 hFi.2 ⟨g1,by omega⟩ (root_sm g3 (by omega))
    have hg:(B.map eSp)[i]? = some [.sl 1 (z.1.1.map eL),.sl 1 (z.1.2.map eL),.int z.2]:=by rw [qD h',hz];rfl
    have hle:(B.map eSp).length = B.length:=List.length_map _
    simp only [eLL,rootS,eSp,eL,List.map_cons,List.map_nil] at hroot hput
    refine gw68 (Y5 i1 i2 hg hw hle) ?_
    refine qY.on (i + 1) ⟨h',by omega⟩ ?_
    rw [hst]
    exact gw69
   ·have i1:((i:Int) < (B.length:Int)) = False:=eq_false (by omega)
    obtain rfl:i = B.length:=by omega
    rw [List.take_length,hfin]
    refine gw70 i1 ?_
    refine qY.out () trivial ?_
    exact gw7 Y0
  ·rintro _ _
   refine gw66 ?_
   exact gw2
end
section
theorem tmod_mP (n:Int):((n.tmod 10007) + 10007).tmod 10007 = mP n:=by
 have h1:n.tmod 10007 = if 0 ≤ n then n % 10007 else -((-n) % 10007):=by
  split
  ·rename_i h;exact Int.tmod_eq_emod_of_nonneg h
  ·rename_i h
   have:=Int.neg_tmod (-n) 10007
   rw [Int.neg_neg] at this
   rw [this,Int.tmod_eq_emod_of_nonneg (by omega)]
 rw [h1]
 unfold mP
 split
 ·rw [Int.tmod_eq_emod_of_nonneg (by omega)];omega
 ·rw [Int.tmod_eq_emod_of_nonneg (by omega)];omega
theorem tmod_bd (n:Int):-10007 < n.tmod 10007∧n.tmod 10007 < 10007:=by
 have h1:n.tmod 10007 = if 0 ≤ n then n % 10007 else -((-n) % 10007):=by
  split
  ·rename_i h;exact Int.tmod_eq_emod_of_nonneg h
  ·rename_i h
   have:=Int.neg_tmod (-n) 10007
   rw [Int.neg_neg] at this
   rw [this,Int.tmod_eq_emod_of_nonneg (by omega)]
 rw [h1];split <;> omega
theorem z10007:((10007:Int) = 0) = False:=eq_false (by decide)
theorem a_num (n:Int):AFn Tryz.prog 92 [eI n] (· = [.val (.int (mP n))]):=by
 have hb:=tmod_bd n
 have hw:w64 (n.tmod 10007 + 10007) = n.tmod 10007 + 10007:=qE (by omega)
 rw [← tmod_mP n]
 refine AFn.of_runs (qQ 7) Tryz.func92 rfl rfl rfl gz ?_
 have hres:Tryz.f92.results.toList = [.tmp 2]:=rfl
 have hrts:Tryz.f92.resultTypes.toList = [2]:=rfl
 simp only [qV,qT,eL,eI,eLL,eB,Nat.zero_add,Nat.reduceAdd]
 intro M
 refine qJ.of ?_
 refine gw71 hw ?_
 exact gw2
theorem a_l01Mod (n:Int):AFn Tryz.prog 99 [eI n] (· = [.val (.int (mP n))]):=by
 have hb:=tmod_bd n
 have hw:w64 (n.tmod 10007 + 10007) = n.tmod 10007 + 10007:=qE (by omega)
 rw [← tmod_mP n]
 refine AFn.of_runs (qQ 7) Tryz.func99 rfl rfl rfl gz ?_
 have hres:Tryz.f99.results.toList = [.tmp 2]:=rfl
 have hrts:Tryz.f99.resultTypes.toList = [2]:=rfl
 simp only [qV,qT,eL,eI,eLL,eB,Nat.zero_add,Nat.reduceAdd]
 intro M
 refine qJ.of ?_
 refine gw71 hw ?_
 exact gw2
noncomputable def TMod:Tab Tryz.prog:=Tab.none.add 99 (tab1 codI fun n => some [.val (.int (mP n))]) (jO fun n rs h => by cases h;exact a_l01Mod n)
theorem a_l01Add (a b:Int) (h:-9223372036854775808 ≤ a + b∧a + b ≤ 9223372036854775807):AFn Tryz.prog 162 [eI a,eI b] (· = [.val (.int (mP (a + b)))]):=by
 have hw:=qE h
 refine AFn.of_runs (qQ 9) Tryz.func162 rfl rfl rfl gz ?_
 have hres:Tryz.f162.results.toList = [.tmp 4]:=rfl
 have hrts:Tryz.f162.resultTypes.toList = [2]:=rfl
 simp only [qV,qT,eL,eI,eLL,eB,Nat.zero_add,Nat.reduceAdd]
 intro M
 refine qJ.of ?_
 refine gw72 hw ?_
 exact gw2
theorem jX0 (a b:Int) (h:-9223372036854775808 ≤ a * b∧a * b ≤ 9223372036854775807):AFn Tryz.prog 98 [eI a,eI b] (· = [.val (.int (mP (a * b)))]):=by
 have hw:=qE h
 refine AFn.of_runs (qQ 9) Tryz.func98 rfl rfl rfl gz ?_
 have hres:Tryz.f98.results.toList = [.tmp 4]:=rfl
 have hrts:Tryz.f98.resultTypes.toList = [2]:=rfl
 simp only [qV,qT,eL,eI,eLL,eB,Nat.zero_add,Nat.reduceAdd]
 intro M
 refine qJ.of ?_
 refine gw72 hw ?_
 exact gw2
end
section
noncomputable def TPut:Tab Tryz.prog :=
 ((Tab.none.add 136 (tab2 codLL codLL fun f g => if SmF f∧SmF g then some [.val (.int (sgn (cmpF f g)))] else none) (yK fun f g rs h => by split at h;cases h;rename_i hs;exact a_l06Order f g (by have:=hs.1.2;omega) (by have:=hs.2.2;omega) (by have:=hs.1.1;omega) (by have:=hs.2.1;omega);cases h)).add
   67 (tab1 codLL fun f => if SmF f then some [.own 1 (f.map eL) false] else none) (jO fun f rs h => by split at h;cases h;rename_i hs;exact yA0 f (by have:=hs.1;omega) hs.b;cases h)).add
   162 (tab2 codI codI fun a b => if -9223372036854775808 ≤ a + b∧a + b ≤ 9223372036854775807 then some [.val (.int (mP (a + b)))] else none) (yK fun a b rs h => by split at h;cases h;rename_i hs;exact a_l01Add a b hs;cases h)
theorem sgn_lt {n:Int} (h:n < 0):sgn n = -1:=by unfold sgn;rw [if_pos h]
theorem sgn_eq {n:Int} (h:n = 0):sgn n = 0:=by subst h;rfl
theorem sgn_gt {n:Int} (h:0 < n):sgn n = 1:=by unfold sgn;rw [if_neg (by omega),if_neg (by omega)]
structure PutI (e:Elt) (k:Int) (f:List (List Int)) (x:Nat × Bool × Elt):Prop where
 le:x.1 ≤ e.length
 no:x.2.1 = false→x.2.2 = e.take x.1∧∀ q ∈ e.take x.1,0 < cmpF f q.2
 yes:x.2.1 = true→x.2.2 ++ e.drop x.1 = putS cmpF e k f
 len:x.2.2.length ≤ x.1 + 1
theorem putS_at {e:Elt} {k:Int} {f:List (List Int)} (hk:k ≠ 0) {i:Nat} (h:i < e.length) (hlow:∀ q ∈ e.take i,0 < cmpF f q.2):putS cmpF e k f = e.take i ++ putS cmpF (e[i] :: e.drop (i + 1)) k f:=by
 have h1:=qH0 hk (e.drop i) hlow
 rw [List.take_append_drop,List.drop_eq_getElem_cons h] at h1
 exact h1
theorem a_l06Put (e:Elt) (k:Int) (f:List (List Int)) (hl:e.length ≤ 1000000) (he:∀ q ∈ e,(1 ≤ q.1∧q.1 < 10007)∧SmF q.2) (hk:0 ≤ k∧k < 10007) (hf:SmF f):AFn Tryz.prog 137 [[.sl 2 (e.map ePt)],eI k,eLL f] (· = [.val (.sl 2 ((putS cmpF e k f).map ePt))]):=by
 by_cases hk0:k = 0
 ·subst hk0
  rw [putS_zero]
  refine AFn.of_runs (qQ 68) Tryz.func137 rfl rfl rfl gz ?_
  have hres:Tryz.f137.results.toList = [.tmp 6]:=rfl
  have hrts:Tryz.f137.resultTypes.toList = [50]:=rfl
  simp only [qV,qT,eL,eI,eLL,eB,Nat.zero_add,Nat.reduceAdd]
  intro M
  refine qJ.of ?_
  refine gw73 Y0 ?_
  exact gw2
 refine AFn.val1 ?_
 have hkb:(k == 0) = false:=beq_eq_false_iff_ne.2 hk0
 have hff:=eq_true hf
 refine AFn.of_runs (qQ 68) Tryz.func137 rfl rfl rfl gz ?_
 have hres:Tryz.f137.results.toList = [.tmp 6]:=rfl
 have hrts:Tryz.f137.resultTypes.toList = [50]:=rfl
 simp only [qV,qT,eL,eI,eLL,eB,Nat.zero_add,Nat.reduceAdd]
 intro M
 refine qJ.of ?_
 refine gw73 hkb ?_
 refine qJ.loop (β:=Nat × Bool × Elt) (γ:=Bool × Elt) (fun x => ⟨[(0,.c (.val (.sl 2 (e.map ePt)))),(1,.c (.val (.int k))),(2,.c (.val (.sl 1 (f.map eL)))),(7,.c (.own 7 x.2.2.length)),(8,.c (.val (.bool x.2.1))),(9,.c (.val (.int x.1)))],[(7,.row 2 (x.2.2.map ePt) false)]⟩) (PutI e k f) (fun x => e.length - x.1)
  (fun x => ⟨[(0,.c (.val (.sl 2 (e.map ePt)))),(1,.c (.val (.int k))),(2,.c (.val (.sl 1 (f.map eL)))),(7,.c (.own 7 x.2.length)),(8,.c (.val (.bool x.1)))],[(7,.row 2 (x.2.map ePt) false)]⟩) (fun x => PutI e k f (e.length,x)) (0,false,[]) ⟨Nat.zero_le _,fun _ => ⟨rfl,by simp⟩,(fun h => nomatch h),Nat.zero_le _⟩ ?_ ?_ ?_
 ·exact gw48
 ·rintro ⟨i,d,o⟩ ⟨hi,hno,hyes,hlen⟩
  simp only at hi hno hyes hlen ⊢
  have hw:=qB (n:=i) (by omega)
  have q1:=jJ (n:=o.length + 1) (by omega)
  have q2:=qP (n:=o.length + 1) (c:=32) (by omega) (by omega)
  have q3:=jJ (n:=o.length + 1 + 1) (by omega)
  have q4:=qP (n:=o.length + 1 + 1) (c:=32) (by omega) (by omega)
  by_cases h:i < e.length
  ·have i1:((i:Int) < (e.length:Int)) = True:=eq_true (by omega)
   have i2:((0:Int) ≤ (i:Int)) = True:=eq_true (by omega)
   obtain ⟨z,hz⟩:∃ z,z = e[i]:=⟨_,rfl⟩
   obtain ⟨⟨hz1,hz2⟩,hz3⟩:=he e[i] (List.getElem_mem _)
   have hg:(e.map ePt)[i]? = some [.int z.1,.sl 1 (z.2.map eL)]:=by rw [qD h,hz];rfl
   have hdr:e.drop i = z :: e.drop (i + 1):=by rw [hz];exact List.drop_eq_getElem_cons h
   have htk:e.take (i + 1) = e.take i ++ [z]:=by rw [hz];exact List.take_succ_eq_append_getElem h
   rw [← hz] at hz1 hz2 hz3
   have hzz:=eq_true hz3
   have hz0:(z.1 != 0) = true:=bne_iff_ne.2 (by omega)
   cases d with
   | true =>
    refine gw74 (Y7 i1 i2 hg hw hz0 q1 q2) ?_
    refine qY.on (i + 1,true,o ++ [z]) ?_ ?_
    refine ⟨⟨h,(fun h => nomatch h),fun _ => ?_,?_⟩,?_⟩
    ·rw [← hyes rfl,hdr];simp
    ·simp;omega
    ·show e.length - (i + 1) < e.length - i;omega
    ·exact gw75
   | false =>
    obtain ⟨ho,hlow⟩:=hno rfl
    have hpa:=putS_at hk0 h hlow
    rw [← hz] at hpa
    rcases Int.lt_trichotomy (cmpF f z.2) 0 with hc|hc|hc
    ·have hs:=sgn_lt hc
     have hp:putS cmpF e k f = o ++ [(k,f)] ++ [z] ++ e.drop (i + 1):=by
      rw [hpa,ho];unfold putS;rw [if_neg hk0,if_pos hc];simp
     refine gw76 (Y12 i1 i2 hg hw hz0 hs hff hzz q1 q2 q3 q4) ?_
     refine qY.on (i + 1,true,o ++ [(k,f)] ++ [z]) ?_ ?_
     refine ⟨⟨h,(fun h => nomatch h),fun _ => hp.symm,?_⟩,?_⟩
     ·have:o.length = i:=by rw [ho,List.length_take];omega
      simp;omega
     ·show e.length - (i + 1) < e.length - i;omega
     ·exact gw75
    ·have hs:=sgn_eq hc
     have hab:(-9223372036854775808 ≤ z.1 + k∧z.1 + k ≤ 9223372036854775807) = True:=eq_true (by omega)
     by_cases hm:mP (z.1 + k) = 0
     ·have hmb:(mP (z.1 + k) == 0) = true:=beq_iff_eq.2 hm
      have hp:putS cmpF e k f = o ++ e.drop (i + 1):=by
       rw [hpa,ho];unfold putS;rw [if_neg hk0,if_neg (by omega),if_pos hc,if_pos hm]
      refine gw74 (Y11 i1 i2 hg hw hm hs hff hzz hab q1 q2) ?_
      refine qY.on (i + 1,true,o) ?_ ?_
      refine ⟨⟨h,(fun h => nomatch h),fun _ => hp.symm,?_⟩,?_⟩
      ·show o.length ≤ i + 1 + 1;omega
      ·show e.length - (i + 1) < e.length - i;omega
      ·exact gw77 Y0
     ·have hmb:(mP (z.1 + k) != 0) = true:=bne_iff_ne.2 hm
      have hp:putS cmpF e k f = o ++ [(mP (z.1 + k),z.2)] ++ e.drop (i + 1):=by
       rw [hpa,ho];unfold putS;rw [if_neg hk0,if_neg (by omega),if_pos hc,if_neg hm];simp
      refine gw74 (Y11 i1 i2 hg hw hmb hs hff hzz hab q1 q2) ?_
      refine qY.on (i + 1,true,o ++ [(mP (z.1 + k),z.2)]) ?_ ?_
      refine ⟨⟨h,(fun h => nomatch h),fun _ => hp.symm,?_⟩,?_⟩
      ·simp;omega
      ·show e.length - (i + 1) < e.length - i;omega
      ·exact gw75
    ·have hs:=sgn_gt hc
     refine gw74 (Y10 i1 i2 hg hw hz0 hs hff hzz q1 q2) ?_
     refine qY.on (i + 1,false,o ++ [z]) ?_ ?_
     refine ⟨⟨h,fun _ => ⟨by rw [htk,ho],?_⟩,(fun h => nomatch h),?_⟩,?_⟩
     ·intro q hq
      have hq:q ∈ e.take (i + 1):=hq
      rw [htk,List.mem_append,List.mem_singleton] at hq
      rcases hq with hq|rfl
      ·exact hlow q hq
      ·exact hc
     ·simp;omega
     ·show e.length - (i + 1) < e.length - i;omega
     ·exact gw75
  ·have i1:((i:Int) < (e.length:Int)) = False:=eq_false (by omega)
   obtain rfl:i = e.length:=by omega
   refine gw78 i1 ?_
   refine qY.out (d,o) ⟨Nat.le_refl _,hno,hyes,hlen⟩ ?_
   exact gw7 Y0
 ·rintro ⟨d,o⟩ ⟨_,hno,hyes,hlen⟩
  simp only at hno hyes hlen ⊢
  have q1:=jJ (n:=o.length + 1) (by omega)
  have q2:=qP (n:=o.length + 1) (c:=32) (by omega) (by omega)
  cases d with
  | true =>
   have hp:putS cmpF e k f = o:=by rw [← hyes rfl];simp
   rw [hp]
   refine gw73 Y0 ?_
   exact gw2
  | false =>
   obtain ⟨ho,hlow⟩:=hno rfl
   have hp:putS cmpF e k f = o ++ [(k,f)]:=by
    have h1:=qH0 hk0 [] hlow
    rw [List.append_nil,List.take_length] at h1
    rw [h1,ho,List.take_length]
    unfold putS;rw [if_neg hk0]
   rw [hp]
   refine gw79 (Y3 hff q1 q2) ?_
   exact gw80
end
section
def OkE (e:Elt):Prop:=∀ q ∈ e,(1 ≤ q.1∧q.1 < 10007)∧SmF q.2
theorem OkE.nil:OkE []:=fun q hq => nomatch hq
theorem putS_okE {k:Int} {f:List (List Int)} (hk:0 ≤ k∧k < 10007) (hf:SmF f):∀ {e:Elt},OkE e→OkE (putS cmpF e k f)
 | [],_ => by
  unfold putS
  split
  ·exact OkE.nil
  ·intro q hq
   simp only [List.mem_singleton] at hq
   subst hq
   exact ⟨⟨by simp only;omega,hk.2⟩,hf⟩
 | (a,y) :: L,he => by
  obtain ⟨⟨ha1,ha2⟩,hy⟩:=he (a,y) (by simp)
  have hL:OkE L:=fun q hq => he q (by simp [hq])
  unfold putS
  split
  ·exact he
  ·split
   ·intro q hq
    rcases List.mem_cons.1 hq with rfl|hq
    ·exact ⟨⟨by simp only;omega,hk.2⟩,hf⟩
    ·exact he q hq
   ·split
    ·split
     ·exact hL
     ·rename_i h0
      intro q hq
      rcases List.mem_cons.1 hq with rfl|hq
      ·have:=jR (a + k)
       exact ⟨⟨by simp only;omega,this.2⟩,hy⟩
      ·exact hL q hq
    ·intro q hq
     rcases List.mem_cons.1 hq with rfl|hq
     ·exact ⟨⟨ha1,ha2⟩,hy⟩
     ·exact putS_okE hk hf hL q hq
theorem putS_len (k:Int) (f:List (List Int)):∀ (e:Elt),(putS cmpF e k f).length ≤ e.length + 1
 | [] => by unfold putS;split <;> simp
 | (a,y) :: L => by
  have ih:=putS_len k f L
  unfold putS
  repeat' split
  all_goals simp only [List.length_cons] at ih ⊢
  all_goals omega
theorem addS_snoc (d M:Elt) (q:Int × List (List Int)):addS cmpF d (M ++ [q]) = putS cmpF (addS cmpF d M) q.1 q.2:=by
 unfold addS;rw [List.foldl_append];rfl
theorem qF0:∀ {M d:Elt},OkE d→(∀ q ∈ M,(0 ≤ q.1∧q.1 < 10007)∧SmF q.2)→OkE (addS cmpF d M)
 | [],d,hd,_ => hd
 | q :: M,d,hd,hM => by
  obtain ⟨h1,h2⟩:=hM q (by simp)
  exact qF0 (M:=M) (putS_okE h1 h2 hd) (fun z hz => hM z (by simp [hz]))
theorem qU0:∀ (M d:Elt),(addS cmpF d M).length ≤ d.length + M.length
 | [],d => Nat.le_refl _
 | q :: M,d => by
  have h1:=qU0 M (putS cmpF d q.1 q.2)
  have h2:=putS_len q.1 q.2 d
  show (addS cmpF (putS cmpF d q.1 q.2) M).length ≤ _
  simp only [List.length_cons];omega
theorem small_mul {a b:Int} (ha:0 ≤ a∧a < 10007) (hb:0 ≤ b∧b < 10007):0 ≤ a * b∧a * b ≤ 100140049:=by
 refine ⟨Int.mul_nonneg ha.1 hb.1,?_⟩
 have h1:=Int.mul_le_mul (show a ≤ 10007 by omega) (show b ≤ 10007 by omega) hb.1 (by decide)
 omega
def limB (L:Elt):Bool:=decide (L.length ≤ 300∧∀ p ∈ L,qX p.2 ≤ 8)
noncomputable def TOwn:Tab Tryz.prog :=
 (Tab.none.add 130 (tab1 codLL fun f => some [.val (.int (jK f))]) (jO fun f rs h => by cases h;exact a_l03Nodes f)).add
  67 (tab1 codLL fun f => if SmF f then some [.own 1 (f.map eL) false] else none) (jO fun f rs h => by split at h;cases h;rename_i hs;exact yA0 f (by have:=hs.1;omega) hs.b;cases h)
theorem a_l06Own (e:Elt) (he:OkE e) (hl:e.length ≤ 1000000):∃ b,AFn Tryz.prog 73 [[.sl 2 (e.map ePt)]] (· = [.own 2 ((limS e).1.map ePt) b,.val (.int (limS e).2)]):=by
 refine ⟨!limB e,?_⟩
 unfold limS
 refine AFn.of_runs (qQ 41) Tryz.func73 rfl rfl rfl gz ?_
 have hres:Tryz.f73.results.toList = [.tmp 2,.tmp 3]:=rfl
 have hrts:Tryz.f73.resultTypes.toList = [50,2]:=rfl
 simp only [qV,qT,eL,eI,eLL,eB,Nat.zero_add,Nat.reduceAdd]
 intro M
 refine qJ.of ?_
 refine gw66 ?_
 refine qJ.loop (β:=Nat) (γ:=Unit) (fun i => ⟨[(0,.c (.val (.sl 2 (e.map ePt)))),(4,.c (.own 4 i)),(5,.c (.val (.int i)))],[(4,.row 2 ((e.take i).map ePt) false)]⟩) (fun i => i ≤ e.length∧(0 < i→e.length ≤ 300)∧∀ p ∈ e.take i,qX p.2 ≤ 8) (fun i => e.length - i)
  (fun _ => ⟨[(4,.c (.own 4 e.length))],[(4,.row 2 (e.map ePt) false)]⟩) (fun _ => limB e = true) 0 ⟨Nat.zero_le _,by omega,by simp⟩ ?_ ?_ ?_
 ·exact gw32
 ·rintro i ⟨hi,h3,h8⟩
  have hw:=qB (n:=i) (by omega)
  have hlt:((e.take i).map ePt).length = i:=by rw [List.length_map,List.length_take];omega
  have q1:=jJ (n:=i + 1) (by omega)
  have q2:=qP (n:=i + 1) (c:=32) (by omega) (by omega)
  by_cases h:i < e.length
  ·have i1:((i:Int) < (e.length:Int)) = True:=eq_true (by omega)
   have i2:((0:Int) ≤ (i:Int)) = True:=eq_true (by omega)
   obtain ⟨z,hz⟩:∃ z,z = e[i]:=⟨_,rfl⟩
   have hg:(e.map ePt)[i]? = some [.int z.1,.sl 1 (z.2.map eL)]:=by rw [qD h,hz];rfl
   have hz3:=(he e[i] (List.getElem_mem _)).2
   rw [← hz] at hz3
   have hzz:=eq_true hz3
   have hnb:jK z.2 = qX z.2:=xI z.2 (by have:=hz3.2;omega)
   have htk:e.take (i + 1) = e.take i ++ [z]:=by rw [hz];exact List.take_succ_eq_append_getElem h
   by_cases hs:qX z.2 ≤ 8
   ·have j1:((qX z.2:Int) > 8) = False:=eq_false (by omega)
    by_cases hn:e.length ≤ 300
    ·have j2:((e.length:Int) > 300) = False:=eq_false (by omega)
     refine gw81 (Y11 i1 i2 hg hnb hzz hw j1 j2 q1 q2 hlt) ?_
     refine qY.on (i + 1) ⟨⟨h,fun _ => hn,fun p hp => ?_⟩,by omega⟩ ?_
     ·rw [htk,List.mem_append,List.mem_singleton] at hp
      rcases hp with hp|rfl
      ·exact h8 p hp
      ·exact hs
     ·rw [htk]
      exact gw77 Y0
    ·have j2:((e.length:Int) > 300) = True:=eq_true (by omega)
     have hno:limB e = false:=decide_eq_false (fun h => hn h.1)
     refine gw81 (Y11 i1 i2 hg hnb hzz hw j1 j2 q1 q2 hlt) ?_
     refine qY.ret ?_
     rw [hno,if_neg (fun h => hn h.1)]
     refine gw66 ?_
     exact gw82
   ·have j1:((qX z.2:Int) > 8) = True:=eq_true (by omega)
    have hno':¬ (e.length ≤ 300∧∀ p ∈ e,qX p.2 ≤ 8):=fun h' => hs (by have:=h'.2 e[i] (List.getElem_mem _);rw [hz];exact this)
    have hno:limB e = false:=decide_eq_false hno'
    refine gw81 (Y10 i1 i2 hg hnb hzz hw j1 q1 q2 hlt) ?_
    refine qY.ret ?_
    rw [hno,if_neg hno']
    refine gw66 ?_
    exact gw82
  ·have i1:((i:Int) < (e.length:Int)) = False:=eq_false (by omega)
   obtain rfl:i = e.length:=by omega
   rw [List.take_length] at h8 ⊢
   refine gw70 i1 ?_
   refine qY.out () (decide_eq_true ⟨?_,h8⟩) ?_
   ·by_cases h0:0 < e.length
    ·exact h3 h0
    ·omega
   ·exact gw7 Y0
 ·intro _ hyes
  have hyes:limB e = true:=hyes
  rw [hyes,if_pos (of_decide_eq_true hyes)]
  refine gw66 ?_
  (refine Ends.mk (by simp) (rs:=?_) (ks:=?_) hres hrts ?_ ?_ ?_;rotate_left 2;(focus (simp only [Ze,Zg,Zi,seval,reduceCtorEq,Nat.reduceEqDiff,Bool.not_true];with_reducible rfl));(focus simp);focus (first|with_reducible rfl|(simp only [Zv,Bool.not_true];done)))
end
end Go.Proofs.YtedgfkpfhonlpaaGreat
