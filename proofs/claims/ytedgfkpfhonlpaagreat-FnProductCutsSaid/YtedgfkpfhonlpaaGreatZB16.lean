/- Lemmas (16). -/
import Derived.Test.YtedgfkpfhonlpaaGreatZB0
import Derived.Test.YtedgfkpfhonlpaaGreatZB5
import Derived.Test.YtedgfkpfhonlpaaGreatZB6
import Derived.Test.YtedgfkpfhonlpaaGreatZB7
import Derived.Test.YtedgfkpfhonlpaaGreatZB8
import Derived.Test.YtedgfkpfhonlpaaGreatZB9
import Derived.Test.YtedgfkpfhonlpaaGreatZB10
import Derived.Test.YtedgfkpfhonlpaaGreatZB11
import Derived.Test.YtedgfkpfhonlpaaGreatZB12
import Derived.Test.YtedgfkpfhonlpaaGreatZB14
import Derived.Test.YtedgfkpfhonlpaaGreatZB15
set_option maxHeartbeats 16000000
set_option maxRecDepth 100000
set_option linter.unusedSimpArgs false
set_option linter.unusedVariables false
namespace Go.Proofs.YtedgfkpfhonlpaaGreat
open Go.RowKit
theorem prodL_len:∀ (d e:Elt),(prodL d e).length = d.length * e.length
 | [],e => by simp [prodL]
 | p :: d,e => by
  have:=prodL_len d e
  unfold prodL at this ⊢
  rw [List.flatMap_cons,List.length_append,List.length_map,this,List.length_cons,Nat.succ_mul]
  omega
theorem mul_sm {f g:List (List Int)} (hf:f.length ≤ 8∧qX f ≤ 8) (hg:g.length ≤ 8∧qX g ≤ 8):SmF (mulF f g):=by
 refine ⟨?_,?_⟩
 ·rw [wV];omega
 ·rw [kZ];omega
theorem tim_ok {d e:Elt} (hd:elB d = true) (he:elB e = true):∀ q ∈ prodL d e,(0 ≤ q.1∧q.1 < 10007)∧SmF q.2:=fun q hq => by
 unfold prodL at hq
 obtain ⟨p,hp,hq⟩:=List.mem_flatMap.1 hq
 obtain ⟨r,hr,rfl⟩:=List.mem_map.1 hq
 exact ⟨jR _,mul_sm ((vO hd).2.2 p hp) ((vO he).2.2 r hr)⟩
theorem jW0 {d e:Elt} (hd:d.length ≤ 300) (he:e.length ≤ 300):(prodL d e).length ≤ 90000:=by
 rw [prodL_len]
 exact Nat.le_trans (Nat.mul_le_mul hd he) (by decide)
theorem degE_snoc (L:Elt) (p:Int × List (List Int)):degE (L ++ [p]) = qX p.2:=by
 unfold degE
 rw [List.getLast?_eq_getElem?]
 simp
theorem snoc_ofE {e:Elt} (h:0 ≤ degE e):∃ L p,e = L ++ [p]:=by
 rcases List.eq_nil_or_concat e with rfl|⟨L,p,rfl⟩
 ·exact absurd h (by decide)
 ·exact ⟨L,p,by simp⟩
theorem tim_far {d e:Elt} (hd:elB d = true) (he:elB e = true) (h0:0 ≤ degE d) (h1:0 ≤ degE e) (h2:8 < degE d + degE e):limS (sumS cmpF (prodL d e)) = ([],3):=by
 obtain ⟨L,p,rfl⟩:=snoc_ofE h0
 obtain ⟨M,q,rfl⟩:=snoc_ofE h1
 rw [degE_snoc,degE_snoc] at h2
 obtain ⟨_,n1,s1,_⟩:=yP hd
 obtain ⟨_,n2,s2,_⟩:=yP he
 obtain ⟨r,hr,hs⟩:=prod_deg n1 n2 s1 s2
 unfold limS
 rw [if_neg]
 rintro ⟨_,h⟩
 have:=h r hr
 omega
theorem degE_bd {e:Elt} (h:elB e = true):degE e ≤ 8∧-1 ≤ degE e:=by
 rcases List.eq_nil_or_concat e with rfl|⟨L,p,rfl⟩
 ·exact ⟨by decide,by decide⟩
 ·rw [List.concat_eq_append] at h ⊢
  rw [degE_snoc]
  have:=((vO h).2.2 p (by simp)).2
  omega
theorem a_products (d e:Elt) (hd:∀ q ∈ d,(0 ≤ q.1∧q.1 < 10007)∧q.2.length ≤ 9∧qX q.2 ≤ 50) (he:∀ q ∈ e,(0 ≤ q.1∧q.1 < 10007)∧q.2.length ≤ 9∧qX q.2 ≤ 50) (hl:d.length ≤ 300) (hl2:e.length ≤ 300) :
  AFn Tryz.prog 83 [[.sl 2 (d.map ePt)],[.sl 2 (e.map ePt)]] (· = [.own 2 ((sumS cmpF (prodL d e)).map ePt) true]):=by
 have hpl:∀ i,(prodL (d.take i) e).length ≤ 90000:=fun i => jW0 (by rw [List.length_take];omega) hl2
 refine AFn.of_runs (qQ 44) Tryz.func83 rfl rfl rfl gz ?_
 have hres:Tryz.f83.results.toList = [.tmp 4]:=rfl
 have hrts:Tryz.f83.resultTypes.toList = [50]:=rfl
 simp only [qV,qT,eL,eI,eLL,eB,Nat.zero_add,Nat.reduceAdd]
 intro M
 refine qJ.of ?_
 refine gw245 Y0 ?_
 refine qJ.loop (β:=Nat) (γ:=Unit) (fun i => ⟨[(1,.c (.val (.sl 2 (e.map ePt)))),(5,.c (.own 5 (prodL (d.take i) e).length)),(11,.c (.val (.sl 2 (d.map ePt)))),(12,.c (.val (.int d.length))),(13,.c (.val (.int i)))],[(5,.row 2 ((prodL (d.take i) e).map ePt) false)]⟩) (fun i => i ≤ d.length) (fun i => d.length - i)
  (fun _ => ⟨[(5,.c (.own 5 (prodL d e).length))],[(5,.row 2 ((prodL d e).map ePt) false)]⟩) (fun _ => True) 0 (Nat.zero_le _) ?_ ?_ ?_
 ·exact gw246 (show prodL [] e = [] from rfl)
 ·intro i hi
  have hi:i ≤ d.length:=hi
  have hw:=qB (n:=i) (by omega)
  by_cases h:i < d.length
  ·have i1:((i:Int) < (d.length:Int)) = True:=eq_true (by omega)
   have i2:((0:Int) ≤ (i:Int)) = True:=eq_true (by omega)
   obtain ⟨z,hz⟩:∃ z,z = d[i]:=⟨_,rfl⟩
   obtain ⟨hz1,hz2,hz3⟩:=hd d[i] (List.getElem_mem _)
   have hg:(d.map ePt)[i]? = some [.int z.1,.sl 1 (z.2.map eL)]:=by rw [qD h,hz];rfl
   rw [← hz] at hz1 hz2 hz3
   have htk:prodL (d.take (i + 1)) e = prodL (d.take i) e ++ e.map fun q => (mP (z.1 * q.1),mulF z.2 q.2):=by rw [hz,List.take_succ_eq_append_getElem h,prodL_snoc]
   have hR:=hpl i
   obtain ⟨R,hRe⟩:∃ R,R = prodL (d.take i) e:=⟨_,rfl⟩
   rw [← hRe] at hR htk ⊢
   have hle:(d.map ePt).length = d.length:=List.length_map _
   refine gw247 (Y4 i1 i2 hg hle) ?_
   refine qJ.loop (β:=Nat) (γ:=Unit) (fun j => ⟨[(1,.c (.val (.sl 2 (e.map ePt)))),(5,.c (.own 5 (R ++ (e.take j).map fun q => (mP (z.1 * q.1),mulF z.2 q.2)).length)),(7,.optr 7 0 0),(11,.c (.val (.sl 2 (d.map ePt)))),(12,.c (.val (.int d.length))),(13,.c (.val (.int i))),(17,.c (.val (.sl 2 (e.map ePt)))),(18,.c (.val (.int e.length))),(19,.c (.val (.int j)))],
     [(5,.row 2 ((R ++ (e.take j).map fun q => (mP (z.1 * q.1),mulF z.2 q.2)).map ePt) false),(7,.row 2 [[.int z.1,.sl 1 (z.2.map eL)]] false)]⟩) (fun j => j ≤ e.length) (fun j => e.length - j)
    (fun _ => ⟨[(1,.c (.val (.sl 2 (e.map ePt)))),(5,.c (.own 5 (R ++ e.map fun q => (mP (z.1 * q.1),mulF z.2 q.2)).length)),(11,.c (.val (.sl 2 (d.map ePt)))),(12,.c (.val (.int d.length))),(13,.c (.val (.int i)))],[(5,.row 2 ((R ++ e.map fun q => (mP (z.1 * q.1),mulF z.2 q.2)).map ePt) false)]⟩) (fun _ => True) 0 (Nat.zero_le _) ?_ ?_ ?_
   ·exact gw248
   ·intro j hj
    have hj:j ≤ e.length:=hj
    have hwj:=qB (n:=j) (by omega)
    by_cases g:j < e.length
    ·have j1:((j:Int) < (e.length:Int)) = True:=eq_true (by omega)
     have j2:((0:Int) ≤ (j:Int)) = True:=eq_true (by omega)
     obtain ⟨y,hy⟩:∃ y,y = e[j]:=⟨_,rfl⟩
     obtain ⟨hy1,hy2,hy3⟩:=he e[j] (List.getElem_mem _)
     have hgj:(e.map ePt)[j]? = some [.int y.1,.sl 1 (y.2.map eL)]:=by rw [qD g,hy];rfl
     rw [← hy] at hy1 hy2 hy3
     have hej:(e.map ePt).length = e.length:=List.length_map _
     have hb:=small_mul hz1 hy1
     have hwm:=qE (n:=z.1 * y.1) (by omega)
     have hc:=AFn.val1 (kH0 [z.2,y.2] (by simp [cntL];omega) (by simp))
     have ho:=AFn.valT (a_forestOf (z.2 ++ y.2) (by rw [List.length_append];omega) (by rw [vG];omega))
     simp only [eLLL',eLL,List.map_cons,List.map_nil,List.flatten_cons,List.flatten_nil,List.append_nil] at hc ho
     have hmf:mulF z.2 y.2 = forest (z.2 ++ y.2):=rfl
     have htj:(R ++ (e.take (j + 1)).map fun q => (mP (z.1 * q.1),mulF z.2 q.2)) = (R ++ (e.take j).map fun q => (mP (z.1 * q.1),mulF z.2 q.2)) ++ [(mP (z.1 * y.1),mulF z.2 y.2)]:=by rw [hy,List.take_succ_eq_append_getElem g,List.map_append,List.append_assoc];rfl
     have hKl:(R ++ (e.take j).map fun q => (mP (z.1 * q.1),mulF z.2 q.2)).length ≤ 100000:=by rw [List.length_append,List.length_map,List.length_take];omega
     obtain ⟨K,hK⟩:∃ K,K = R ++ (e.take j).map fun q => (mP (z.1 * q.1),mulF z.2 q.2):=⟨_,rfl⟩
     rw [← hK] at hKl htj ⊢
     have hlt:(K.map ePt).length = K.length:=List.length_map _
     have q1:=jJ (n:=K.length + 1) (by omega)
     have q2:=qP (n:=K.length + 1) (c:=32) (by omega) (by omega)
     refine gw247 (Y6 j1 j2 hgj hwj hlt hej) ?_
     (((with_reducible refine qJ.wFz (qQ 44) ((TSm.at' 123 hc).at' 102 ho) qK [34] (tr:=?_) (s1:=?_) (rest:=?_) ?_ ?_ ?_);rotate_left 3;(focus ((with_reducible refine QW ?_);simp only [Zg,Zd,Zi,seval,reduceCtorEq,Nat.reduceEqDiff,drunF,kT,devalB,valD,wU,List.contains_cons,List.contains_nil,TSm,hwm,q1,q2,hlt];with_reducible rfl));focus ((with_reducible refine QK ?_);simp only [Zk];kernel_rfl));(refine qZ.opsT (qQ 44) (T:=((TSm.at' 123 hc).at' 102 ho)) (s':=?_) ?_ ?_;rotate_left 1;focus (simp only [Zg,Zi,seval,reduceCtorEq,Nat.reduceEqDiff,TSm,hwm,q1,q2,hlt];with_reducible rfl)))
     refine gw245 hwj ?_
     refine qY.on (j + 1) ⟨g,by omega⟩ ?_
     rw [htj]
     exact gw77 hmf
    ·have j1:((j:Int) < (e.length:Int)) = False:=eq_false (by omega)
     obtain rfl:j = e.length:=by omega
     rw [List.take_length]
     refine gw249 j1 ?_
     refine qY.out () trivial ?_
     exact gw7 Y0
   ·rintro _ _
    refine gw245 hw ?_
    refine qY.on (i + 1) ⟨h,by omega⟩ ?_
    rw [htk]
    exact gw7 Y0
  ·have i1:((i:Int) < (d.length:Int)) = False:=eq_false (by omega)
   obtain rfl:i = d.length:=by omega
   rw [List.take_length]
   refine gw249 i1 ?_
   refine qY.out () trivial ?_
   exact gw7 Y0
 ·rintro _ _
  have hp:∀ z ∈ prodL d e,(0 ≤ z.1∧z.1 < 10007)∧z.2.length ≤ 19∧qX z.2 ≤ 1000:=fun z hz => by
   unfold prodL at hz
   obtain ⟨p,hp,hz⟩:=List.mem_flatMap.1 hz
   obtain ⟨r,hr,rfl⟩:=List.mem_map.1 hz
   have h1:=(hd p hp).2
   have h2:=(he r hr).2
   refine ⟨jR _,?_,?_⟩
   ·simp only;rw [wV];omega
   ·simp only;rw [kZ];omega
  have h4:=a_summed (prodL d e) (by have:=jW0 hl hl2;omega) (fun z hz' => ⟨(hp z hz').1,by have:=(hp z hz').2.1;omega,by have:=(hp z hz').2.2;omega⟩)
  refine gw250 ?_
  exact gw2
theorem elB_sm {e:Elt} (h:elB e = true):∀ q ∈ e,(0 ≤ q.1∧q.1 < 10007)∧q.2.length ≤ 9∧qX q.2 ≤ 50:=fun q hq => by
 obtain ⟨h1,_,h3⟩:=vO h
 have h4:=(h1 q hq).1
 have h5:=h3 q hq
 exact ⟨⟨by omega,h4.2⟩,by omega,by omega⟩
theorem kI0 (d e:Elt) (hzd:szP d) (hz:szP e):AFn Tryz.prog 30 [[.sl 2 (d.map ePt)],[.sl 2 (e.map ePt)]] (· = [.own 2 ((timOf d e).1.map ePt) true,.val (.int (timOf d e).2)]):=by
 have h1:=yD0 d hzd
 have s1:(d.length + szN d ≤ 1048576) = True:=eq_true hzd
 have s2:(e.length + szN e ≤ 1048576) = True:=eq_true hz
 unfold timOf
 refine AFn.of_runs (qQ 20) Tryz.func30 rfl rfl rfl gz ?_
 have hres:Tryz.f30.results.toList = [.tmp 4,.tmp 5]:=rfl
 have hrts:Tryz.f30.resultTypes.toList = [50,2]:=rfl
 simp only [qV,qT,eL,eI,eLL,eB,Nat.zero_add,Nat.reduceAdd]
 intro M
 refine qJ.of ?_
 by_cases hD:elB d = true
 rotate_left
 ·have hD':elB d = false:=by simpa using hD
  rw [if_neg (by rw [hD',Bool.false_and];decide)]
  rw [hD'] at h1
  refine gw251 ?_
  exact gw2
 rw [hD] at h1
 by_cases hE:elB e = true
 rotate_left
 ·have hE':elB e = false:=by simpa using hE
  rw [if_neg (by rw [hE',Bool.and_false];decide)]
  refine gw252 (Y4 s1 s2 hD hE') ?_
  exact gw2
 rw [if_pos (by rw [hD,hE];rfl)]
 have hld:=(vO hD).2.1
 have hle:=(vO hE).2.1
 have hc:=a_products d e (elB_sm hD) (elB_sm hE) hld hle
 have hok:=tim_ok hD hE
 have hsl:=qU0 (prodL d e) []
 simp only [List.length_nil] at hsl
 have hpl:=jW0 hld hle
 have h4:=a_limited (sumS cmpF (prodL d e)) (by show (addS cmpF [] _).length ≤ _;omega) (fun q hq => by
  have:=qF0 OkE.nil hok q hq
  exact ⟨⟨by have:=this.1;omega,this.1.2⟩,this.2⟩)
 rw [sumS_self yX (vR yX (fun q hq => (hok q hq).1))] at h4
 refine gw253 (Y4 s1 s2 hD hE) ?_
 exact gw2
theorem a_l06Times (d e:Elt) (hd:∀ q ∈ d,(0 ≤ q.1∧q.1 < 10007)∧q.2.length ≤ 9∧qX q.2 ≤ 50) (he:∀ q ∈ e,(0 ≤ q.1∧q.1 < 10007)∧q.2.length ≤ 9∧qX q.2 ≤ 50) (hl:d.length ≤ 300) (hl2:e.length ≤ 300) :
  AFn Tryz.prog 85 [[.sl 2 (d.map ePt)],[.sl 2 (e.map ePt)]] (· = [.val (.sl 2 ((sumS cmpF (prodL d e)).map ePt))]):=by
 have hpl:∀ i,(prodL (d.take i) e).length ≤ 90000:=fun i => jW0 (by rw [List.length_take];omega) hl2
 have hok:∀ i,∀ q ∈ prodL (d.take i) e,(0 ≤ q.1∧q.1 < 10007)∧SmF q.2:=fun i q hq => by
  unfold prodL at hq
  obtain ⟨p,hp,hq⟩:=List.mem_flatMap.1 hq
  obtain ⟨r,hr,rfl⟩:=List.mem_map.1 hq
  have h1:=(hd p (List.mem_of_mem_take hp)).2
  have h2:=(he r hr).2
  refine ⟨jR _,?_,?_⟩
  ·simp only;rw [wV];omega
  ·simp only;rw [kZ];omega
 refine AFn.of_runs (qQ 46) Tryz.func85 rfl rfl rfl gz ?_
 have hres:Tryz.f85.results.toList = [.tmp 4]:=rfl
 have hrts:Tryz.f85.resultTypes.toList = [50]:=rfl
 simp only [qV,qT,eL,eI,eLL,eB,Nat.zero_add,Nat.reduceAdd]
 intro M
 refine qJ.of ?_
 refine gw254 Y0 ?_
 refine qJ.frz 5 ?_
 refine qJ.fits (s0:=⟨[(0,.c (.val (.sl 2 (d.map ePt)))),(1,.c (.val (.sl 2 (e.map ePt)))),(5,.c (.val (.sl 2 []))),(6,.c (.val (.int 0)))],[]⟩) ?_ ?_
 ·exact gw55
 refine qJ.loop (β:=Nat) (γ:=Unit) (fun i => ⟨[(0,.c (.val (.sl 2 (d.map ePt)))),(1,.c (.val (.sl 2 (e.map ePt)))),(5,.c (.val (.sl 2 ((sumS cmpF (prodL (d.take i) e)).map ePt)))),(6,.c (.val (.int i)))],[]⟩) (fun i => i ≤ d.length) (fun i => d.length - i)
  (fun _ => ⟨[(5,.c (.val (.sl 2 ((sumS cmpF (prodL d e)).map ePt))))],[]⟩) (fun _ => True) 0 (Nat.zero_le _) ?_ ?_ ?_
 ·exact gw56 (Yp (show prodL [] e = [] from rfl) (show sumS cmpF [] = [] from rfl))
 ·intro i hi
  have hi:i ≤ d.length:=hi
  have hw:=qB (n:=i) (by omega)
  by_cases h:i < d.length
  ·have i1:((i:Int) < (d.length:Int)) = True:=eq_true (by omega)
   have i2:((0:Int) ≤ (i:Int)) = True:=eq_true (by omega)
   obtain ⟨z,hz⟩:∃ z,z = d[i]:=⟨_,rfl⟩
   obtain ⟨hz1,hz2,hz3⟩:=hd d[i] (List.getElem_mem _)
   have hg:(d.map ePt)[i]? = some [.int z.1,.sl 1 (z.2.map eL)]:=by rw [qD h,hz];rfl
   rw [← hz] at hz1 hz2 hz3
   have htk:sumS cmpF (prodL (d.take (i + 1)) e) = addS cmpF (sumS cmpF (prodL (d.take i) e)) (e.map fun q => (mP (z.1 * q.1),mulF z.2 q.2)):=by
    rw [hz,List.take_succ_eq_append_getElem h,prodL_snoc]
    exact addS_app _ _ _
   have hR:=qU0 (prodL (d.take i) e) []
   have hRk:OkE (sumS cmpF (prodL (d.take i) e)):=qF0 OkE.nil (hok i)
   have hR2:=hpl i
   simp only [List.length_nil] at hR
   have hR:(sumS cmpF (prodL (d.take i) e)).length ≤ 90000:=by show (addS cmpF [] _).length ≤ _;omega
   obtain ⟨R,hRe⟩:∃ R,R = sumS cmpF (prodL (d.take i) e):=⟨_,rfl⟩
   rw [← hRe] at hR hRk htk ⊢
   have hM:∀ q ∈ e.map (fun q => (mP (z.1 * q.1),mulF z.2 q.2)),(0 ≤ q.1∧q.1 < 10007)∧SmF q.2:=fun q hq => by
    obtain ⟨r,hr,rfl⟩:=List.mem_map.1 hq
    have h2:=(he r hr).2
    refine ⟨jR _,?_,?_⟩
    ·simp only;rw [wV];omega
    ·simp only;rw [kZ];omega
   obtain ⟨M',hMe⟩:∃ M',M' = e.map fun q => (mP (z.1 * q.1),mulF z.2 q.2):=⟨_,rfl⟩
   have hMl:M'.length = e.length:=by rw [hMe,List.length_map]
   rw [← hMe] at hM htk
   have hle:(d.map ePt).length = d.length:=List.length_map _
   refine gw255 (Y3 i1 i2 hle) ?_
   refine qJ.loop (β:=Nat) (γ:=Unit) (fun j => ⟨[(0,.c (.val (.sl 2 (d.map ePt)))),(1,.c (.val (.sl 2 (e.map ePt)))),(5,.c (.val (.sl 2 ((addS cmpF R (M'.take j)).map ePt)))),(6,.c (.val (.int i))),(7,.c (.val (.int j)))],[]⟩) (fun j => j ≤ e.length) (fun j => e.length - j)
    (fun _ => ⟨[(0,.c (.val (.sl 2 (d.map ePt)))),(1,.c (.val (.sl 2 (e.map ePt)))),(5,.c (.val (.sl 2 ((addS cmpF R M').map ePt)))),(6,.c (.val (.int i)))],[]⟩) (fun _ => True) 0 (Nat.zero_le _) ?_ ?_ ?_
   ·exact gw149 (show addS cmpF R [] = R from rfl)
   ·intro j hj
    have hj:j ≤ e.length:=hj
    have hwj:=qB (n:=j) (by omega)
    by_cases g:j < e.length
    ·have j1:((j:Int) < (e.length:Int)) = True:=eq_true (by omega)
     have j2:((0:Int) ≤ (j:Int)) = True:=eq_true (by omega)
     obtain ⟨y,hy⟩:∃ y,y = e[j]:=⟨_,rfl⟩
     obtain ⟨hy1,hy2,hy3⟩:=he e[j] (List.getElem_mem _)
     have hgj:(e.map ePt)[j]? = some [.int y.1,.sl 1 (y.2.map eL)]:=by rw [qD g,hy];rfl
     rw [← hy] at hy1 hy2 hy3
     have hej:(e.map ePt).length = e.length:=List.length_map _
     have hm:=jX0 z.1 y.1 (by have:=small_mul hz1 hy1;omega)
     have ht:=AFn.valT (a_l03Times z.2 y.2 (by omega) (fun b hb => by have:=jL hb;omega) (by omega) (fun b hb => by have:=jL hb;omega))
     have hsf:SmF (mulF z.2 y.2):=by
      refine ⟨?_,?_⟩
      ·rw [wV];omega
      ·rw [kZ];omega
     have hput:=a_l06Put (addS cmpF R (M'.take j)) (mP (z.1 * y.1)) (mulF z.2 y.2) (by
      have:=qU0 (M'.take j) R
      rw [List.length_take] at this;omega) (qF0 hRk (fun q hq => hM q (List.mem_of_mem_take hq))) (jR _) hsf
     have hst:addS cmpF R (M'.take (j + 1)) = putS cmpF (addS cmpF R (M'.take j)) (mP (z.1 * y.1)) (mulF z.2 y.2):=by
      have hj':j < M'.length:=by rw [hMl];exact g
      have hgm:M'[j]'hj' = (mP (z.1 * y.1),mulF z.2 y.2):=by simp only [hMe,hy];exact List.getElem_map _
      rw [List.take_succ_eq_append_getElem hj',addS_snoc,hgm]
     simp only [eI,eLL] at hm hput ht
     refine gw256 (Y9 i1 i2 j1 j2 hg hgj hwj hle hej) ?_
     refine qY.on (j + 1) ⟨g,by omega⟩ ?_
     rw [hst]
     exact gw7 Y0
    ·have j1:((j:Int) < (e.length:Int)) = False:=eq_false (by omega)
     obtain rfl:j = e.length:=by omega
     rw [← hMl,List.take_length,hMl]
     refine gw257 j1 ?_
     refine qY.out () trivial ?_
     exact gw7 Y0
   ·rintro _ _
    refine gw254 hw ?_
    refine qY.on (i + 1) ⟨h,by omega⟩ ?_
    rw [htk]
    exact gw7 Y0
  ·have i1:((i:Int) < (d.length:Int)) = False:=eq_false (by omega)
   obtain rfl:i = d.length:=by omega
   rw [List.take_length]
   refine gw257 i1 ?_
   refine qY.out () trivial ?_
   exact gw7 Y0
 ·rintro _ _
  refine gw254 Y0 ?_
  exact gw2
noncomputable def TTS:Tab Tryz.prog:=TEAS.add 84 (tab1 (codS 2 codPt) fun e => if e.length + szN e ≤ 1048576 then some [.val (.int (degE e))] else none) (jO fun e rs h => by split at h;cases h;rename_i hz;exact a_l06Degree e hz;cases h)
theorem kS0 (d e:Elt) (hzd:szP d) (hz:szP e):∃ b,AFn Tryz.prog 31 [[.sl 2 (d.map ePt)],[.sl 2 (e.map ePt)]] (· = [.own 2 ((timOf d e).1.map ePt) b,.val (.int (timOf d e).2)]):=by
 have h1:=a_l06Is d hzd
 have s1:(d.length + szN d ≤ 1048576) = True:=eq_true hzd
 have s2:(e.length + szN e ≤ 1048576) = True:=eq_true hz
 unfold timOf
 by_cases hD:elB d = true
 rotate_left
 ·have hD':elB d = false:=by simpa using hD
  rw [if_neg (by rw [hD',Bool.false_and];decide)]
  rw [hD'] at h1
  refine ⟨true,?_⟩
  refine AFn.of_runs (qQ 36) Tryz.func31 rfl rfl rfl gz ?_
  have hres:Tryz.f31.results.toList = [.tmp 4,.tmp 5]:=rfl
  have hrts:Tryz.f31.resultTypes.toList = [50,2]:=rfl
  simp only [qV,qT,eL,eI,eLL,eB,Nat.zero_add,Nat.reduceAdd]
  intro M
  refine qJ.of ?_
  refine gw258 ?_
  exact gw2
 by_cases hE:elB e = true
 rotate_left
 ·have hE':elB e = false:=by simpa using hE
  rw [if_neg (by rw [hE',Bool.and_false];decide)]
  refine ⟨true,?_⟩
  refine AFn.of_runs (qQ 36) Tryz.func31 rfl rfl rfl gz ?_
  have hres:Tryz.f31.results.toList = [.tmp 4,.tmp 5]:=rfl
  have hrts:Tryz.f31.resultTypes.toList = [50,2]:=rfl
  simp only [qV,qT,eL,eI,eLL,eB,Nat.zero_add,Nat.reduceAdd]
  intro M
  refine qJ.of ?_
  refine gw259 (Y4 s1 s2 hD hE') ?_
  exact gw2
 rw [if_pos (by rw [hD,hE];rfl)]
 obtain ⟨d1,d2⟩:=degE_bd hD
 obtain ⟨e1,e2⟩:=degE_bd hE
 have hw:=qE (n:=degE d + degE e) (by omega)
 by_cases hT:0 ≤ degE d∧0 ≤ degE e∧8 < degE d + degE e
 ·rw [tim_far hD hE hT.1 hT.2.1 hT.2.2]
  have i1:(degE d ≥ 0) = True:=eq_true hT.1
  have i2:(degE e ≥ 0) = True:=eq_true hT.2.1
  have i3:(degE d + degE e > 8) = True:=eq_true hT.2.2
  refine ⟨true,?_⟩
  refine AFn.of_runs (qQ 36) Tryz.func31 rfl rfl rfl gz ?_
  have hres:Tryz.f31.results.toList = [.tmp 4,.tmp 5]:=rfl
  have hrts:Tryz.f31.resultTypes.toList = [50,2]:=rfl
  simp only [qV,qT,eL,eI,eLL,eB,Nat.zero_add,Nat.reduceAdd]
  intro M
  refine qJ.of ?_
  refine gw260 (Y8 s1 s2 hD hE hw i1 i2 i3) ?_
  exact gw2
 have hld:=(vO hD).2.1
 have hle:=(vO hE).2.1
 have h3:=a_l06Times d e (elB_sm hD) (elB_sm hE) hld hle
 have hsl:=qU0 (prodL d e) []
 simp only [List.length_nil] at hsl
 have hpl:=jW0 hld hle
 obtain ⟨b,h4⟩:=a_l06Own (sumS cmpF (prodL d e)) (qF0 OkE.nil (tim_ok hD hE)) (by show (addS cmpF [] _).length ≤ _;omega)
 refine ⟨b,?_⟩
 refine AFn.of_runs (qQ 36) Tryz.func31 rfl rfl rfl gz ?_
 have hres:Tryz.f31.results.toList = [.tmp 4,.tmp 5]:=rfl
 have hrts:Tryz.f31.resultTypes.toList = [50,2]:=rfl
 simp only [qV,qT,eL,eI,eLL,eB,Nat.zero_add,Nat.reduceAdd]
 intro M
 refine qJ.of ?_
 by_cases g1:0 ≤ degE d
 rotate_left
 ·have i1:(degE d ≥ 0) = False:=eq_false g1
  refine gw261 (Y5 s1 s2 hD hE i1) ?_
  exact gw2
 have i1:(degE d ≥ 0) = True:=eq_true g1
 by_cases g2:0 ≤ degE e
 rotate_left
 ·have i2:(degE e ≥ 0) = False:=eq_false g2
  refine gw261 (Y6 s1 s2 hD hE i1 i2) ?_
  exact gw2
 have i2:(degE e ≥ 0) = True:=eq_true g2
 have i3:(degE d + degE e > 8) = False:=eq_false (by omega)
 refine gw261 (Y8 s1 s2 hD hE hw i1 i2 i3) ?_
 exact gw2
theorem EAOk.sz {n m:Nat} (hn:n ≤ 100) (hm:m ≤ 100) {e:Elt} (h:EAOk n m e):szP e:=by
 have h1:∀ (L:Elt),(∀ q ∈ L,FAOk m q.2)→szN L ≤ 202 * L.length:=fun L => by
  induction L with
  | nil => intro _;simp [szN]
  | cons q L ih =>
   intro hL
   have h2:=ih fun x hx => hL x (by simp [hx])
   have h3:=hL q (by simp)
   have h4:=h3.sum
   have h5:=h3.len
   show (q.2.length + qX q.2) + szN L ≤ 202 * (L.length + 1)
   omega
 have h2:=h1 e fun q hq => (h.ok q hq).2
 have h3:=h.len
 unfold szP
 omega
theorem okF_sz {f:List (List Int)} (h:OkF f) (h8:qX f ≤ 8):f.length ≤ 8∧∀ t ∈ f,t.length ≤ 8:=by
 refine ⟨?_,fun t ht => by have:=jL ht;omega⟩
 have:=wW (f:=f) fun t ht => (h.1 t ht).1
 omega
def mapN (code:List Int):Nat→(Nat × Int)→List Int→List Int × (Nat × Int)
 | 0,s,t => (t,s)
 | k + 1,s,t => mapN code k (nxtF code s 10007).2 (t ++ [(nxtF code s 10007).1])
def mapF (code:List Int) (s:Nat × Int) (m:Int):List Int × (Nat × Int):=mapN code 37 s [m]
structure MOk (n:Nat) (t:List Int):Prop where
 len:t.length = n
 bd:∀ x ∈ t,0 ≤ x∧x < 10007
theorem mapN_ok {code:List Int} (hc:jW code):∀ (k:Nat) {s:Nat × Int} {t:List Int} {n:Nat},MOk n t→s.1 ≤ code.length→MOk (n + k) (mapN code k s t).1∧(mapN code k s t).2.1 ≤ code.length
 | 0,_,_,_,h,hs => ⟨h,hs⟩
 | k + 1,s,t,n,h,hs => by
  have hb:=jM hc s 10007
  have h1:MOk (n + 1) (t ++ [(nxtF code s 10007).1]):=⟨by have:=h.len;simp;omega,fun x hx => by
   rcases List.mem_append.1 hx with hx|hx
   ·exact h.bd x hx
   ·rw [List.mem_singleton] at hx;subst hx;omega⟩
  have:=mapN_ok hc k h1 (jU (n:=10007) hs)
  rw [show n + (k + 1) = n + 1 + k by omega]
  exact this
theorem isMap_ofB {b:List Int} (h:b.length = 38) (h2:∀ x ∈ b,0 ≤ x∧x < 10007):isMap b = true:=by
 unfold isMap
 rw [Bool.and_eq_true]
 refine ⟨decide_eq_true h,List.all_eq_true.2 fun x hx => ?_⟩
 have:=h2 x hx
 unfold isNum inR
 simp
 omega
theorem mapF_ok {code:List Int} (hc:jW code) {s:Nat × Int} (hs:s.1 ≤ code.length) {m:Int} (hm:0 ≤ m∧m < 10007):isMap (mapF code s m).1 = true∧(mapF code s m).2.1 ≤ code.length:=by
 obtain ⟨h1,h2⟩:=mapN_ok hc 37 (s:=s) (t:=[m]) (n:=1) ⟨rfl,fun x hx => by obtain rfl:=List.mem_singleton.1 hx;exact hm⟩ hs
 exact ⟨isMap_ofB h1.len h1.bd,h2⟩
def mapG (code:List Int) (s:Nat × Int) (m:Int):List Res × (Nat × Int):=([.own 1 ((mapF code s m).1.map eI) true],(mapF code s m).2)
theorem p_map9 {code:List Int} (hc:jW code) (hl:code.length ≤ 1000000000):xT Tryz.prog 47 code (drw1 (mapG code)):=by
 refine drw1_of fun s m hs hm1 hm2 => ?_
 have hpin:=nxt_below hc hl
 unfold mapG mapF
 refine AEp.of_runs (qQ 17) Tryz.func47 rfl rfl rfl (fun _ => rfl) gz ?_
 have hres:Tryz.f47.results.toList = [.tmp 4]:=rfl
 have hrts:Tryz.f47.resultTypes.toList = [24]:=rfl
 simp only [List.length_cons,List.length_nil,jF,if_true,qV,qT,eL,eI,eLL,eB,Nat.zero_add,Nat.reduceAdd]
 intro M og cap
 refine qJ.of ?_
 refine gw262 Y0 ?_
 refine qJ.loop (β:=Nat × (Nat × Int) × List Int) (γ:=List Int × (Nat × Int)) (fun x => ⟨[(0,.optr 0 0 0),(5,.c (.own 5 x.2.2.length))],[(0,.pin og cap 3 [srcD code x.2.1]),(5,.row 1 (x.2.2.map eI) true)]⟩)
  (fun x => x.2.2.length + x.1 = 38∧x.2.1.1 ≤ code.length∧mapN code x.1 x.2.1 x.2.2 = mapN code 37 s [m]) (fun x => x.1)
  (fun z => ⟨[(0,.optr 0 0 0),(5,.c (.own 5 z.1.length))],[(0,.pin og cap 3 [srcD code z.2]),(5,.row 1 (z.1.map eI) true)]⟩) (fun z => z = mapN code 37 s [m]) (37,s,[m]) ⟨rfl,hs,rfl⟩ ?_ ?_ ?_
 ·(repeat' (first|exact Qn|((with_reducible refine Qr ?_ ?_);focus first|with_reducible rfl|(simp only [Zz,Nat.reduceBEq,List.map_cons,List.map_nil,eI,List.length_cons,List.length_nil];done)|rfl)|((with_reducible apply Qj);rfl)|((with_reducible refine Qw ?_ ?_);(focus first|with_reducible rfl|(simp only [Zv,List.map_cons,List.map_nil,eI,List.length_cons,List.length_nil];done));first|exact id|exact nofun|exact fun _=>rfl)))
  all_goals first|exact ⟨rfl,rfl⟩|exact ⟨rfl,rfl,id⟩|exact ⟨rfl,rfl,rfl,rfl⟩
 ·rintro ⟨j,s,t⟩ ⟨hj,hs,hgr⟩
  simp only at hj hs hgr
  have hlm:(t.map eI).length = t.length:=List.length_map _
  by_cases h0:0 < j
  ·obtain ⟨j,rfl⟩:∃ i,j = i + 1:=⟨j - 1,by omega⟩
   have i1:((t.length:Int) < 38) = True:=eq_true (by omega)
   have hdr:=yG code s 10007 hs
   have hat:=jU (n:=10007) hs
   have hgr:mapN code j (nxtF code s 10007).2 (t ++ [(nxtF code s 10007).1]) = mapN code 37 _ [m]:=hgr
   obtain ⟨⟨x,s2⟩,hp⟩:∃ p,p = nxtF code s 10007:=⟨_,rfl⟩
   rw [← hp] at hdr hat hgr
   simp only at hdr hat hgr
   simp only [eI] at hdr
   have q1:=jJ (n:=t.length + 1) (by omega)
   have q2:=qP (n:=t.length + 1) (c:=8) (by omega) (by omega)
   refine gw263 (Y5 hdr i1 hlm q1 q2) ?_
   refine qY.on (j,s2,t ++ [x]) ⟨⟨by simp only [List.length_append,List.length_singleton];omega,hat,hgr⟩,by simp⟩ ?_
   (repeat' (first|exact Qn|((with_reducible refine Qr ?_ ?_);focus first|with_reducible rfl|(simp only [Zz,Nat.reduceBEq,List.map_append,List.map_cons,List.map_nil,List.length_append,List.length_singleton,eI];done)|rfl)|((with_reducible apply Qj);rfl)|((with_reducible refine Qw ?_ ?_);(focus first|with_reducible rfl|(simp only [Zv,List.map_append,List.map_cons,List.map_nil,List.length_append,List.length_singleton,eI];done));first|exact id|exact nofun|exact fun _=>rfl)))
   all_goals first|exact ⟨rfl,rfl⟩|exact ⟨rfl,rfl,id⟩|exact ⟨rfl,rfl,rfl,rfl⟩
  ·obtain rfl:j = 0:=by omega
   have i1:((t.length:Int) < 38) = False:=eq_false (by omega)
   refine gw262 (Yp i1 hlm) ?_
   refine qY.out (t,s) hgr ?_
   (repeat' (first|exact Qn|((with_reducible refine Qr ?_ ?_);focus first|with_reducible rfl|(simp only [Zz,Nat.reduceBEq];done)|rfl)|((with_reducible apply Qj);rfl)|((with_reducible refine Qw ?_ ?_);(focus first|with_reducible rfl|(simp only [Zv];done));first|exact id|exact nofun|exact fun _=>rfl)))
   all_goals first|exact ⟨rfl,rfl⟩|exact ⟨rfl,rfl,id⟩|exact ⟨rfl,rfl,rfl,rfl⟩
 rintro z rfl
 refine gw262 Y0 ?_
 exact gw200
noncomputable def TDm {code:List Int} (hc:jW code) (hl:code.length ≤ 1000000000):Tab Tryz.prog:=Tab.none.pin 47 (drwE code (drw1 (mapG code))) (p_map9 hc hl).ok
theorem vat_bd (a:List Int) (f:List (List Int)):0 ≤ (vatOf a f).1∧(vatOf a f).1 < 10007:=by
 unfold vatOf
 split
 ·split
  ·simp
  ·exact valM_bd _ _
 ·simp
def SzT (L:List (Int × Spl)):Prop:=L.length ≤ 1000000∧∀ q ∈ L,(0 ≤ q.1∧q.1 < 10007)∧(q.2.1.length ≤ 1000∧qX q.2.1 ≤ 1000)∧q.2.2.length ≤ 1000∧qX q.2.2 ≤ 1000
theorem v9_bd (a b:List Int):∀ (L:List (Int × Spl)) (out:Int),0 ≤ out∧out < 10007→-1 ≤ v9 a b L out∧v9 a b L out < 10007
 | [],out,h => by show -1 ≤ out∧out < 10007;omega
 | q :: L,out,_ => by
  unfold v9
  split
  ·exact v9_bd a b L _ (kU _)
  ·omega
noncomputable def TMd:Tab Tryz.prog:=(Tab.none.add 49 (tab1 codI fun n => some [.val (.int (mP n))]) (jO fun n rs h => by cases h;exact a_mod9 n)).add
  104 (tab2 codL codLL fun a f => if f.length ≤ 1000∧qX f ≤ 1000 then some [.val (.int (vatOf a f).1),.val (.int (vatOf a f).2)] else none) (yK fun a f rs h => by split at h;cases h;rename_i hs;exact a_impl_ValueAt a f (by have:=hs.2;omega) (by have:=hs.1;omega);cases h)
theorem a_value9 (L:List (Int × Spl)) (a b:List Int) (hL:SzT L):AFn Tryz.prog 48 [[.sl 3 (L.map eTe)],eL a,eL b] (· = [.val (.int (v9 a b L 0))]):=by
 have hLm:(L.map eTe).length = L.length:=List.length_map _
 obtain ⟨hL1,hL2⟩:=hL
 refine AFn.of_runs (qQ 60) Tryz.func48 rfl rfl rfl gz ?_
 have hres:Tryz.f48.results.toList = [.tmp 6]:=rfl
 have hrts:Tryz.f48.resultTypes.toList = [2]:=rfl
 simp only [qV,qT,eL,eI,eLL,eB,Nat.zero_add,Nat.reduceAdd]
 intro M
 refine qJ.of ?_
 refine gw264 Y0 ?_
 refine qJ.loop (β:=Nat × Int) (γ:=Int) (fun x => ⟨[(0,.c (.val (.sl 3 (L.map eTe)))),(1,.c (.val (.sl 1 (a.map eI)))),(2,.c (.val (.sl 1 (b.map eI)))),(7,.c (.val (.int x.2))),(8,.c (.val (.int x.1)))],[]⟩) (fun x => x.1 ≤ L.length∧(0 ≤ x.2∧x.2 < 10007)∧v9 a b (L.drop x.1) x.2 = v9 a b L 0) (fun x => L.length - x.1)
  (fun z => ⟨[(7,.c (.val (.int z)))],[]⟩) (fun z => z = v9 a b L 0) (0,0) ⟨Nat.zero_le _,by decide,rfl⟩ ?_ ?_ ?_
 ·exact gw234
 ·rintro ⟨i,o⟩ ⟨hi,ho,hv⟩
  simp only at hi ho hv
  have hw:=qB (n:=i) (by omega)
  by_cases h:i < L.length
  ·have i1:((i:Int) < (L.length:Int)) = True:=eq_true (by omega)
   have i2:((0:Int) ≤ (i:Int)) = True:=eq_true (by omega)
   obtain ⟨z1,⟨z2,z3⟩,z4,z5⟩:=hL2 L[i] (List.getElem_mem _)
   have hdr:=List.drop_eq_getElem_cons h
   obtain ⟨⟨k,⟨f,g⟩⟩,hz⟩:∃ z,z = L[i]:=⟨_,rfl⟩
   rw [← hz] at z1 z2 z3 z4 z5 hdr
   simp only at z1 z2 z3 z4 z5
   have hg:(L.map eTe)[i]? = some [.int k,.sl 1 (f.map eL),.sl 1 (g.map eL)]:=by rw [List.getElem?_map,List.getElem?_eq_getElem h,← hz];rfl
   have va:=eq_true (And.intro z2 z3)
   have vb:=eq_true (And.intro z4 z5)
   have ba:=vat_bd a f
   have bb:=vat_bd b g
   have hst:v9 a b (L.drop i) o = if (vatOf a f).2 = 0∧(vatOf b g).2 = 0 then v9 a b (L.drop (i + 1)) (mP (o + mP (k * mP ((vatOf a f).1 * (vatOf b g).1)))) else -1:=by rw [hdr];rfl
   rw [hst] at hv
   obtain ⟨⟨x,cx⟩,hx⟩:∃ z,z = vatOf a f:=⟨_,rfl⟩
   obtain ⟨⟨y,cy⟩,hy⟩:∃ z,z = vatOf b g:=⟨_,rfl⟩
   rw [← hx] at ba hv
   rw [← hy] at bb hv
   simp only at ba bb hv
   have hx:=hx.symm
   have hy:=hy.symm
   have m1:=mul_bdW ba bb
   have w1:w64 (x * y) = x * y:=qE (by omega)
   have m2:=mul_bdW (a:=k) (b:=mP (x * y)) z1 (kU _)
   have w2:w64 (k * mP (x * y)) = k * mP (x * y):=qE (by omega)
   have m3:=kU (k * mP (x * y))
   have w3:w64 (o + mP (k * mP (x * y))) = o + mP (k * mP (x * y)):=qE (by omega)
   by_cases h1:cx = 0
   ·subst h1
    have c0:((0:Int) != 0) = false:=by decide
    by_cases h2:cy = 0
    ·subst h2
     rw [if_pos ⟨rfl,rfl⟩] at hv
     refine gw265 (Y12 va vb hx hy i1 i2 hLm hg c0 w1 w2 (Yp w3 hw)) ?_
     refine qY.on (i + 1,mP (o + mP (k * mP (x * y)))) ⟨⟨h,kU _,hv⟩,by show L.length - (i + 1) < L.length - i;omega⟩ ?_
     exact gw7 Y0
    ·have c2:(cy != 0) = true:=bne_iff_ne.2 h2
     rw [if_neg (fun h => h2 h.2)] at hv
     rw [← hv]
     refine gw265 (Y11 va vb hx hy i1 i2 hLm hg c0 c2 hw) ?_
     refine qY.ret ?_
     refine gw264 Y0 ?_
     exact gw2
   ·have c1:(cx != 0) = true:=bne_iff_ne.2 h1
    rw [if_neg (fun h => h1 h.1)] at hv
    rw [← hv]
    refine gw265 (Y10 va vb hx hy i1 i2 hLm hg c1 hw) ?_
    refine qY.ret ?_
    refine gw264 Y0 ?_
    exact gw2
  ·have i1:((i:Int) < (L.length:Int)) = False:=eq_false (by omega)
   obtain rfl:i = L.length:=by omega
   rw [List.drop_length] at hv
   refine gw264 (Yp i1 hLm) ?_
   refine qY.out o hv ?_
   exact gw7 Y0
 ·rintro z rfl
  refine gw264 Y0 ?_
  exact gw2
noncomputable def TV9:Tab Tryz.prog:=by
 classical
 exact (Tab.none.add 49 (tab1 codI fun n => some [.val (.int (mP n))]) (jO fun n rs h => by cases h;exact a_mod9 n)).add
  48 (tab3 (codS 3 codTe) codL codL fun L a b => if SzT L then some [.val (.int (v9 a b L 0))] else none) (tab3_ok fun L a b rs h => by split at h;cases h;rename_i hs;exact a_value9 L a b hs;cases h)
theorem elB_sz {e:Elt} (h:elB e = true):szP e∧SzE e:=by
 obtain ⟨h1,_,_,h4⟩:=yP h
 have h6:∀ (L:Elt),(∀ q ∈ L,forB q.2 = true)→szN L ≤ 17 * L.length:=fun L => by
  induction L with
  | nil => intro _;simp [szN]
  | cons q L ih =>
   intro hL
   have h2:=ih fun x hx => hL x (by simp [hx])
   have h3:=jL0 (hL q (by simp))
   have h4:=(xU (hL q (by simp))).1
   show (q.2.length + qX q.2) + szN L ≤ 17 * (L.length + 1)
   omega
 have h7:=h6 e h4
 refine ⟨by unfold szP;omega,by omega,fun q hq => ?_⟩
 have h3:=jL0 (h4 q hq)
 have h5:=(xU (h4 q hq)).1
 exact ⟨by omega,fun t ht => by have:=jL ht;omega⟩
theorem tim_sz (d e:Elt):SzE (timOf d e).1:=by
 by_cases h:elB d = true∧elB e = true
 ·rcases jA0 h.1 h.2 with ⟨k1,k2⟩|k1
  ·rw [k1];exact (elB_sz k2).2
  ·rw [k1];exact ⟨by simp,fun q hq => nomatch hq⟩
 ·rw [tim_bad h];exact ⟨by simp,fun q hq => nomatch hq⟩
theorem tim_empty {d e:Elt} (h:(timOf d e).2 ≠ 0):(timOf d e).1 = []:=by
 by_cases hb:elB d = true∧elB e = true
 ·rcases jA0 hb.1 hb.2 with ⟨k1,k2⟩|k1
  ·rw [k1] at h;exact absurd rfl h
  ·rw [k1]
 ·rw [tim_bad hb]
theorem cop_sz {e:Elt} (h:elB e = true) {x:List (Int × Spl)} {c:Int} (hx:copOf e = (x,c)):SzT x∧(c = 0 ∨ c = 3):=by
 rcases cop_case h with k|k
 ·rw [hx] at k
  obtain ⟨rfl,rfl⟩:x = sumS cmpTe (copM e)∧c = 0:=Prod.ext_iff.1 k
  refine ⟨⟨?_,fun q hq => ?_⟩,.inl rfl⟩
  ·have h5:=qT0 e (yP h).2.2.2
   have h6:=addT_len (copM e) []
   have h7:=(yP h).1
   show (addS cmpTe [] (copM e)).length ≤ _
   simp only [List.length_nil] at h6
   omega
  ·obtain ⟨k1,k2,k3⟩:=cop_key h hq
   have k4:=(vR jR0 (copM_range e)).2 q hq
   have k5:=okF_sz k1 (by omega)
   have k6:=okF_sz k2 (by omega)
   exact ⟨by omega,⟨by omega,by omega⟩,by omega,by omega⟩
 ·rw [hx] at k
  obtain ⟨rfl,rfl⟩:x = []∧c = 3:=Prod.ext_iff.1 k
  exact ⟨⟨by simp,fun q hq => nomatch hq⟩,.inr rfl⟩
theorem a_FnProductCuts (code:List Int) (hc:jW code):AFn Tryz.prog 7 [eCode code] (· = [.val (.bool true)]):=by
 have hbg:=a_big code
 by_cases hbig:4096 < code.length
 ·rw [decide_eq_true hbig] at hbg
  simp only [eCode,dCode] at hbg
  refine AFn.of_runs (qQ 162) Tryz.func7 rfl rfl rfl gz ?_
  have hres:Tryz.f7.results.toList = [.tmp 2]:=rfl
  have hrts:Tryz.f7.resultTypes.toList = [4]:=rfl
  simp only [qV,qT,eL,eI,eLL,eB,Nat.zero_add,Nat.reduceAdd,eCode,dCode]
  intro M
  refine qJ.of ?_
  refine gw266 ?_
  exact gw2
 rw [decide_eq_false hbig] at hbg
 have hl:code.length ≤ 1000000000:=by omega
 have hdr:=kN0 hc hl
 obtain ⟨hok1,hok2⟩:=drawTm_ok hc
 obtain ⟨⟨d,e⟩,hp⟩:∃ p,p = drawTm code:=⟨_,rfl⟩
 rw [← hp] at hdr hok1 hok2
 simp only at hdr hok1 hok2
 have hs1:=hok1.sz (by decide) (by decide)
 have hs2:=hok2.sz (by decide) (by decide)
 have h1:=AFn.valT2 (kI0 d e hs1 hs2)
 obtain ⟨fl,h2⟩:=kS0 d e hs1 hs2
 have h2:=AFn.valB2 h2
 have hlp:=a_likeParts9 (timOf d e).1 (timOf d e).1 (tim_sz d e) (tim_sz d e)
 rw [decide_eq_true rfl] at hlp
 have b0:((0:Int) != 0) = false:=by decide
 have b3:((3:Int) != 0) = true:=by decide
 have b00:((0:Int) == 0) = true:=by decide
 obtain ⟨C,hC⟩:∃ C,C = code.map eU:=⟨_,rfl⟩
 simp only [eCode,dCode] at hbg hdr
 rw [← hC] at hbg hdr
 have hem:=tim_empty (d:=d) (e:=e)
 have hone:=fun p => em_one (d:=d) (e:=e) (p:=p)
 have hall:=fun p => pc_all (d:=d) (e:=e) (p:=p)
 obtain ⟨⟨p,c⟩,hpc⟩:∃ p,p = timOf d e:=⟨_,rfl⟩
 rw [← hpc] at h1 h2 hlp hem
 simp only at h1 h2 hlp hem
 have bcc:(c != c) = false:=by simp
 by_cases hc0:c = 0
 rotate_left
 ·have bc0:(c != 0) = true:=bne_iff_ne.2 hc0
  refine AFn.of_runs (qQ 162) Tryz.func7 rfl rfl rfl gz ?_
  have hres:Tryz.f7.results.toList = [.tmp 2]:=rfl
  have hrts:Tryz.f7.resultTypes.toList = [4]:=rfl
  simp only [qV,qT,eL,eI,eLL,eB,Nat.zero_add,Nat.reduceAdd,eCode,dCode]
  intro M
  refine qJ.of ?_
  rw [← hC]
  refine gw267 (Yp bcc bc0) ?_
  exact gw2
 subst hc0
 have E:=hone p hpc.symm
 have hall:=hall p hpc.symm
 obtain ⟨sp,_⟩:=elB_sz E.bp
 obtain ⟨⟨x,cx⟩,hx⟩:∃ z,z = copOf d:=⟨_,rfl⟩
 obtain ⟨⟨y,cy⟩,hy⟩:∃ z,z = copOf e:=⟨_,rfl⟩
 obtain ⟨⟨z,cz⟩,hz⟩:∃ z,z = copOf p:=⟨_,rfl⟩
 obtain ⟨sx,ex⟩:=cop_sz E.bd hx.symm
 obtain ⟨sy,ey⟩:=cop_sz E.be hy.symm
 obtain ⟨sz,ez⟩:=cop_sz E.bp hz.symm
 have t1:=eq_true hs1
 have t2:=eq_true hs2
 have t3:=eq_true sp
 have hx':=hx.symm
 have hy':=hy.symm
 have hz':=hz.symm
 have bx:(cx != cx) = false:=by simp
 have byy:(cy != cy) = false:=by simp
 have bz:(cz != cz) = false:=by simp
 have hdg:=a_impl_DegreeOf p sp
 rw [show degOf p = (degE p,0) by unfold degOf;rw [if_pos E.bp]] at hdg
 refine AFn.of_runs (qQ 162) Tryz.func7 rfl rfl rfl gz ?_
 have hres:Tryz.f7.results.toList = [.tmp 2]:=rfl
 have hrts:Tryz.f7.resultTypes.toList = [4]:=rfl
 simp only [qV,qT,eL,eI,eLL,eB,Nat.zero_add,Nat.reduceAdd,eCode,dCode]
 intro M
 refine qJ.of ?_
 rw [← hC]
 refine gw268 (Y10 t1 t2 t3 hx' hy' hz' b0 bx byy bz) ?_
 refine qJ.fits (s0:=⟨[(0,.c (.val (.sl 1 C))),(5,.c (.val (.sl 2 (p.map ePt)))),(9,.c (.val (.sl 3 (x.map eTe)))),(10,.c (.val (.int cx))),(11,.c (.val (.sl 3 (y.map eTe)))),(12,.c (.val (.int cy))),(13,.c (.val (.sl 3 (z.map eTe)))),(14,.c (.val (.int cz)))],[]⟩) ?_ ?_
 ·exact gw7 Y0
 rcases ex with rfl|rfl
 rotate_left
 ·refine gw269 b3 ?_
  exact gw2
 rcases ey with rfl|rfl
 rotate_left
 ·refine gw269 (Yp b0 b3) ?_
  exact gw2
 rcases ez with rfl|rfl
 rotate_left
 ·refine gw269 (Yp b0 b3) ?_
  exact gw2
 by_cases hd6:6 < degE p
 ·have j1:(degE p > 6) = True:=eq_true hd6
  refine gw270 (Y3 b0 b00 j1) ?_
  exact gw2
 have j1:(degE p > 6) = False:=eq_false (by omega)
 have hroll:=p_roll hc hl 1061 (by decide)
 obtain ⟨s0,hs0⟩:∃ s0,s0 = dice0 1061 code:=⟨_,rfl⟩
 have hs0l:s0.1 ≤ code.length:=by rw [hs0];exact Nat.zero_le _
 rw [← hs0] at hroll
 have hd1:=vJ (G:=mapG code) hs0l (m:=1) (by omega)
 obtain ⟨ma,hs1l⟩:=mapF_ok hc hs0l (m:=1) (by omega)
 have e1:mapG code s0 1 = ([.own 1 ((mapF code s0 1).1.map eI) true],(mapF code s0 1).2):=rfl
 rw [e1] at hd1
 obtain ⟨⟨a,s1'⟩,hpa⟩:∃ p,p = mapF code s0 1:=⟨_,rfl⟩
 rw [← hpa] at hd1 ma hs1l
 simp only at hd1 ma hs1l
 have hd2:=vJ (G:=mapG code) hs1l (m:=1) (by omega)
 obtain ⟨mb,_⟩:=mapF_ok hc hs1l (m:=1) (by omega)
 have e2:mapG code s1' 1 = ([.own 1 ((mapF code s1' 1).1.map eI) true],(mapF code s1' 1).2):=rfl
 rw [e2] at hd2
 obtain ⟨⟨b,s2'⟩,hpb⟩:∃ p,p = mapF code s1' 1:=⟨_,rfl⟩
 rw [← hpb] at hd2 mb
 simp only at hd2 mb
 simp only [eCode,dCode] at hroll
 rw [← hC] at hroll
 have v1:=eq_true sx
 have v2:=eq_true sy
 have v3:=eq_true sz
 have r1:=v9_bd a b x 0 (by decide)
 have r2:=v9_bd a b y 0 (by decide)
 have hpm:(p.map ePt).length = p.length:=List.length_map _
 refine gw270 (Yp b0 j1) ?_
 ((refine gw271 ?_);(with_reducible refine qJ.regCut (qQ 162) Tab.none 1 (s1:=?_) ?_ ?_);rotate_left 1;(focus ((with_reducible refine QW ?_);simp only [Zg,Zi,seval,reduceCtorEq,Nat.reduceEqDiff];with_reducible rfl));simp only [List.toList_toArray,List.drop_succ_cons,List.drop_zero])
 refine qZ.callR (qQ 162) rfl (d:=126) rfl (by decide) rfl rfl rfl rfl hroll rfl ?_
 intro blk
 (refine qZ.opsT (qQ 162) (T:=Tab.none) (s':=?_) ?_ ?_;rotate_left 1;focus (simp only [Zg,Zi,seval,reduceCtorEq,Nat.reduceEqDiff];with_reducible rfl))
 ((refine gw272 (Yp hd1 hd2) ?_);with_reducible (apply QS (qQ 162) (TDm hc hl);refine QW ?_;simp only [Zg,Zi,seval,reduceCtorEq,Nat.reduceEqDiff,TDm,hd1,hd2,drwE,srcD_len];rfl);(refine gw272 (Yp hd1 hd2) ?_))
 refine qJ.frz 24 ?_
 refine qJ.frz 25 ?_
 refine qJ.fits (s0:=⟨[(5,.c (.val (.sl 2 (p.map ePt)))),(9,.c (.val (.sl 3 (x.map eTe)))),(11,.c (.val (.sl 3 (y.map eTe)))),(13,.c (.val (.sl 3 (z.map eTe)))),(24,.c (.val (.sl 1 (a.map eI)))),(25,.c (.val (.sl 1 (b.map eI))))],[]⟩) ?_ ?_
 ·(repeat' (first|exact Qn|((with_reducible refine Qr ?_ ?_);focus first|with_reducible rfl|(simp only [Zz,Nat.reduceBEq,St.frz,frzR,frzH,look,AV.frz,AC.frz,Obj.frz,drop];done)|rfl)|((with_reducible apply Qj);rfl)|((with_reducible refine Qw ?_ ?_);(focus first|with_reducible rfl|(simp only [Zv,St.frz,frzR,frzH,look,AV.frz,AC.frz,Obj.frz,drop];done));first|exact id|exact nofun|exact fun _=>rfl)))
  all_goals first|exact ⟨rfl,rfl⟩|exact ⟨rfl,rfl,id⟩|exact ⟨rfl,rfl,fun h => nomatch h⟩
 by_cases hp0:p = []
 ·have k0:((p.length:Int) == 0) = true:=by rw [hp0];rfl
  refine gw273 (Y5 v1 v2 v3 hpm k0) ?_
  exact gw2
 ·obtain ⟨u1,u2,u3,u4,u5⟩:=hall hp0 (by omega) hx.symm hy.symm hz.symm ma mb
  have hpl:=List.length_pos_iff.2 hp0
  have k0:((p.length:Int) == 0) = false:=by rw [beq_eq_false_iff_ne];omega
  obtain ⟨A,hA⟩:∃ A,A = v9 a b x 0:=⟨_,rfl⟩
  obtain ⟨B,hB⟩:∃ B,B = v9 a b y 0:=⟨_,rfl⟩
  rw [← hA,← hB] at u3
  rw [← hA] at u1 u4
  rw [← hB] at u2 u5
  have hA:=hA.symm
  have hB:=hB.symm
  have m1:=mul_bdW (a:=A) (b:=B) ⟨u1,u4⟩ ⟨u2,u5⟩
  have w1:w64 (A * B) = A * B:=qE (by omega)
  have k1:(A ≥ 0) = True:=eq_true (by omega)
  have k2:(B ≥ 0) = True:=eq_true (by omega)
  have k3:(mP (A * B) == mP (A * B)) = true:=by simp
  refine gw273 (Y12 v1 v2 v3 hA hB u3 hpm k0 k1 k2 k3 w1) ?_
  exact gw2
theorem kO0 (v0:Value) (x0:List Int) (w:World) (h0:Rd RBytes w [v0] x0):Calls Tryz.prog 7 #[v0] w (RetV w (.bool true)):=law_code (fun code hc => a_FnProductCuts code hc) v0 x0 w h0
end Go.Proofs.YtedgfkpfhonlpaaGreat
