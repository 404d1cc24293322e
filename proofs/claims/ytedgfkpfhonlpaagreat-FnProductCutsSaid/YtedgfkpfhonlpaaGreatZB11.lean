/- Lemmas (11). -/
import Derived.Laws.Shifts
import Derived.Lib.AppendZeros
import Derived.WalkArith
import Derived.Test.YtedgfkpfhonlpaaGreatZB4
import Derived.Test.YtedgfkpfhonlpaaGreatZB6
import Derived.Test.YtedgfkpfhonlpaaGreatZB7
import Derived.Test.YtedgfkpfhonlpaaGreatZB9
import Derived.Test.YtedgfkpfhonlpaaGreatZB10
set_option maxHeartbeats 16000000
set_option maxRecDepth 100000
set_option linter.unusedSimpArgs false
set_option linter.unusedVariables false
namespace Go.Proofs.YtedgfkpfhonlpaaGreat
open Go.RowKit
section
theorem sub_flatN {α:Type} {l1 l2:List (List α)} (h:l1.Sublist l2):l1.flatten.Sublist l2.flatten:=by
 induction h with
 | slnil => exact .slnil
 | cons a _ ih => rw [List.flatten_cons];exact ih.trans (List.sublist_append_right _ _)
 | cons_cons a _ ih => rw [List.flatten_cons,List.flatten_cons];exact List.Sublist.append (List.Sublist.refl _) ih
def eS0 (s:Spl):List D:=[.sl 1 (s.1.map eL),.sl 1 (s.2.map eL),.int 0]
noncomputable def TGa2:Tab Tryz.prog :=
 (Tab.none.add 102 (tab1 codLL fun f => if SmF f then some [.own 1 ((forest f).map eL) true] else none) (jO fun f rs h => by split at h;cases h;rename_i hs;exact a_forestOf f hs.1 (by have:=hs.2;omega);cases h)).add
  120 (tab2 codSp codSp fun z y => if SmS z.1∧SmS y.1 then some [.val (.int (cmpS z.1 y.1))] else none) (yK fun z y rs h => by split at h;cases h;rename_i hs;exact a_gathered1 z y hs.1 hs.2;cases h)
structure Ga1 (M:Nat→Prop) (L:List Spl) (i:Nat) (qs:List SpT):Prop where
 le:i ≤ L.length
 eq:qs.map (·.1) = (L.take i).map fun s => (nrmS s,1)
 nd:((qs.map SpT.bl).flatten).Nodup
 mi:∀ b ∈ (qs.map SpT.bl).flatten,M b
theorem Ga1.len {M:Nat→Prop} {L:List Spl} {i:Nat} {qs:List SpT} (h:Ga1 M L i qs):qs.length = i:=by
 have:=congrArg List.length h.eq
 rw [List.length_map,List.length_map,List.length_take] at this
 have:=h.le
 omega
theorem marks_eSpT:∀ (qs:List SpT),kG (qs.map eSpT) = (qs.map SpT.bl).flatten
 | [] => rfl
 | q :: qs => by
  have ih:=marks_eSpT qs
  unfold kG at ih ⊢
  rw [List.map_cons,List.flatMap_cons,ih,List.map_cons,List.flatten_cons]
  congr 1
  simp [eSpT,D.marks,SpT.bl]
theorem rowMarks_left {xs ys:List (List D)} {b:Nat} (h:b ∈ kG xs):b ∈ kG (xs ++ ys):=by
 unfold kG at h ⊢
 rw [List.flatMap_append];exact List.mem_append_left _ h
theorem a_gathered (L:List Spl) (hl:L.length ≤ 100000) (hL:∀ s ∈ L,SmS s):AOw Tryz.prog 60 [] 3 (L.map eS0) [] (· = [.own 3 ((gathS L).map eSp) true]):=by
 refine AOw.of_runs (qQ 68) Tryz.func60 rfl rfl rfl gz ?_
 have hres:Tryz.f60.results.toList = [.tmp 2]:=rfl
 have hrts:Tryz.f60.resultTypes.toList = [33]:=rfl
 simp only [List.length_cons,List.length_nil,List.nil_append,List.cons_append,qV,qT,eL,eI,eLL,eB,Nat.zero_add,Nat.reduceAdd]
 intro M
 refine qJ.of ?_
 refine gw91 ?_
 refine qJ.loop (β:=Nat × List SpT) (γ:=List SpT) (fun x => ⟨[(0,.c (.own 0 L.length)),(10,.c (.own 0 L.length)),(11,.c (.val (.int L.length))),(12,.c (.val (.int x.1)))],[(0,.row 3 (x.2.map eSpT ++ (L.drop x.1).map eS0) false)]⟩) (fun x => Ga1 M L x.1 x.2) (fun x => L.length - x.1)
  (fun qs => ⟨[(0,.c (.own 0 L.length))],[(0,.row 3 (qs.map eSpT) false)]⟩) (fun qs => Ga1 M L L.length qs) (0,[]) ⟨Nat.zero_le _,rfl,List.nodup_nil,fun b hb => nomatch hb⟩ ?_ ?_ ?_
 ·exact gw92
 ·rintro ⟨i,qs⟩ hI
  have hil:=hI.le
  have hqn:=hI.len
  simp only at hil hqn ⊢
  have hw:=qB (n:=i) (by omega)
  have hrl:(qs.map eSpT ++ (L.drop i).map eS0).length = L.length:=by rw [List.length_append,List.length_map,List.length_map,List.length_drop];omega
  by_cases h:i < L.length
  ·have i1:((i:Int) < (L.length:Int)) = True:=eq_true (by omega)
   have i2:((0:Int) ≤ (i:Int)) = True:=eq_true (by omega)
   refine qJ.fresh rfl ?_
   intro M' hM' hold
   have hold:=hold 0 3 (qs.map eSpT ++ (L.drop i).map eS0) rfl
   obtain ⟨s,hs⟩:∃ s,s = L[i]:=⟨_,rfl⟩
   have hsm:=hL L[i] (List.getElem_mem _)
   have hdr:L.drop i = s :: L.drop (i + 1):=by rw [hs];exact List.drop_eq_getElem_cons h
   rw [← hs] at hsm
   have hg:(qs.map eSpT ++ (L.drop i).map eS0)[i]? = some [.sl 1 (s.1.map eL),.sl 1 (s.2.map eL),.int 0]:=by
    rw [List.getElem?_append_right (by rw [List.length_map];omega),List.length_map,hqn,Nat.sub_self,hdr];rfl
   have e1:=eq_true hsm.1
   have e2:=eq_true hsm.2
   refine gw93 (Y4 i1 i2 hg hrl) ?_
   ((with_reducible refine qJ.wFz (qQ 68) TGa2 qK [] (tr:=?_) (s1:=?_) (rest:=?_) ?_ ?_ ?_);rotate_left 3;(focus ((with_reducible refine QW ?_);simp only [Zg,Zd,Zi,seval,reduceCtorEq,Nat.reduceEqDiff,drunF,kT,devalB,valD,wU,List.contains_cons,List.contains_nil,TGa2,TGa2,i1,i2,hg,hrl,e1,e2,Int.toNat_natCast];with_reducible rfl));focus ((with_reducible refine QK ?_);simp only [Zk];kernel_rfl))
   refine qZ.markA2 (r:=25) (key1:=21) (key2:=24) (z:=[.val (.int 1)]) rfl rfl rfl (by decide) ?_
   intro F G hnd hFG
   refine qZ.opsT (qQ 68) (T:=Tab.none) (s':=?_) ?_ ?_
   rotate_left 1
   focus (simp only [Zg,Zi,seval,reduceCtorEq,Nat.reduceEqDiff,hg,hrl];with_reducible rfl)
   refine gw94 hw ?_
   have hset:(qs.map eSpT ++ (L.drop i).map eS0).set i [.tag F (.sl 1 ((forest s.1).map eL)),.tag G (.sl 1 ((forest s.2).map eL)),.int 1] = (qs ++ [((nrmS s,1),(F,G))]).map eSpT ++ (L.drop (i + 1)).map eS0:=by
    rw [List.set_append_right _ _ (by rw [List.length_map];omega),List.length_map,hqn,Nat.sub_self,hdr,List.map_cons,List.set_cons_zero,List.map_append,List.append_assoc]
    rfl
   refine qY.on (i + 1,qs ++ [((nrmS s,1),(F,G))]) ⟨⟨h,?_,?_,?_⟩,by show L.length - (i + 1) < L.length - i;omega⟩ ?_
   ·show List.map (fun q:SpT => q.1) (qs ++ [((nrmS s,1),(F,G))]) = (L.take (i + 1)).map fun s => (nrmS s,1)
    have:=hI.eq
    simp only at this
    rw [List.map_append,this,List.take_succ_eq_append_getElem h,List.map_append,← hs];rfl
   ·show (((qs ++ [((nrmS s,1),(F,G))]).map SpT.bl).flatten).Nodup
    rw [List.map_append,List.flatten_append]
    refine List.nodup_append.2 ⟨hI.nd,by simpa [SpT.bl] using hnd,fun b hb c hc e => ?_⟩
    subst e
    refine hold b (rowMarks_left ?_) (hFG b (by simpa [SpT.bl] using hc))
    rw [marks_eSpT];exact hb
   ·intro b hb
    have hb:b ∈ ((qs ++ [((nrmS s,1),(F,G))]).map SpT.bl).flatten:=hb
    rw [List.map_append,List.flatten_append] at hb
    rcases List.mem_append.1 hb with hb|hb
    ·exact hI.mi b hb
    ·exact hM' b (hFG b (by simpa [SpT.bl] using hb))
   ·rw [← hset]
    exact gw7 Y0
  ·have i1:((i:Int) < (L.length:Int)) = False:=eq_false (by omega)
   obtain rfl:i = L.length:=by omega
   have hd0:L.drop L.length = []:=List.drop_length
   refine gw94 i1 ?_
   refine qY.out qs hI ?_
   rw [hd0,List.map_nil,List.append_nil]
   exact gw7 Y0
 ·intro qs hJ
  have hqn:=hJ.len
  have hq1:∀ q ∈ qs,q.1.2 = 1∧SmS q.1.1:=fun q hq => by
   have hm:q.1 ∈ qs.map (·.1):=List.mem_map.2 ⟨q,hq,rfl⟩
   rw [hJ.eq,List.take_length,List.mem_map] at hm
   obtain ⟨s,hs,e⟩:=hm
   rw [← e]
   have:=hL s hs
   refine ⟨rfl,⟨?_,?_⟩,?_,?_⟩
   ·show (sortC cmpT s.1).length ≤ 19
    rw [vT];exact this.1.1
   ·show qX (sortC cmpT s.1) ≤ 100
    rw [wJ (yQ _)];exact this.1.2
   ·show (sortC cmpT s.2).length ≤ 19
    rw [vT];exact this.2.1
   ·show qX (sortC cmpT s.2) ≤ 100
    rw [wJ (yQ _)];exact this.2.2
  have hso:=a_sortSp qs (fun q hq => (hq1 q hq).2) (by omega)
  refine gw94 Y0 ?_
  refine qJ.regCut (qQ 68) Tab.none 2 (s1:=?_) ?_ ?_
  rotate_left 1
  focus (refine Work.mk ?_;simp only [Zg,Zi,seval,reduceCtorEq,Nat.reduceEqDiff];with_reducible rfl)
  simp only [List.toList_toArray,List.drop_succ_cons,List.drop_zero]
  refine qZ.callEf (qQ 68) rfl rfl (by decide) rfl rfl (x:=.tmp 28) (xpost:=[.tmp 29]) rfl rfl (post:=[[.raw (.func (.func 120) #[] #[])]]) ?_ ?_ rfl rfl ?_ hso (R:=fun ys => ∃ zs:List SpT,ys = zs.map eSpT∧zs.Perm qs∧zs.Pairwise (fun a b => cmpS a.1.1 b.1.1 ≤ 0)) ?_ ?_
  ·simp only [Zg,Zi,seval,reduceCtorEq,Nat.reduceEqDiff]
  ·rfl
  ·intro q u hq hu
   rw [look,if_neg (fun e => hq e.symm)] at hu
   cases hu
  ·rintro rs oc ⟨rfl,zs,rfl,h1,h2⟩
   exact ⟨rfl,_,rfl,zs,rfl,h1,h2⟩
  rintro _ ⟨zs,rfl,hperm,hsort⟩
  have hzl:zs.length = L.length:=by rw [hperm.length_eq];exact hqn
  have hzz:∀ z ∈ zs,z.1.2 = 1∧SmS z.1.1:=fun z hz => hq1 z (hperm.mem_iff.1 hz)
  refine qZ.opsT (qQ 68) (T:=Tab.none) (s':=?_) ?_ ?_
  rotate_left 1
  focus (simp only [Zg,Zi,seval,reduceCtorEq,Nat.reduceEqDiff];with_reducible rfl)
  refine gw94 Y0 ?_
  obtain ⟨R,hR⟩:∃ R,R = fun i => runQ (zs.take i):=⟨_,rfl⟩
  have hRi:∀ i,i ≤ zs.length→(R i).length ≤ 100000∧∀ q ∈ R i,(1 ≤ q.1.2∧q.1.2 ≤ 100000)∧SmS q.1.1:=fun i hi => by
   rw [hR]
   obtain ⟨_,_,h3,h4⟩:=runQ_spec _ (zs.take i) rfl (fun q hq => (hzz q (List.mem_of_mem_take hq)).1)
   rw [List.length_take] at h3 h4
   refine ⟨by show (runQ (zs.take i)).length ≤ 100000;omega,fun q hq => ?_⟩
   obtain ⟨h5,p,hp,h6⟩:=h4 q hq
   exact ⟨by omega,h6 ▸ (hzz p (List.mem_of_mem_take hp)).2⟩
  refine qJ.loop (β:=Nat) (γ:=Unit) (fun i => ⟨[(5,.c (.val (.raw (.func (.func 120) #[] #[])))),(6,.c (.own 6 (R i).length)),(32,.c (.own 0 L.length)),(33,.c (.val (.int L.length))),(34,.c (.val (.int i)))],[(0,.row 3 (zs.map eSpT) false),(6,.row 3 ((R i).map eSpT) false)]⟩) (fun i => i ≤ L.length) (fun i => L.length - i)
   (fun _ => ⟨[(6,.c (.own 6 (R L.length).length))],[(6,.row 3 ((R L.length).map eSpT) false)]⟩) (fun _ => True) 0 (Nat.zero_le _) ?_ ?_ ?_
  ·have e0:R 0 = []:=by rw [hR];rfl
   rw [e0]
   exact gw95
  ·intro i hi
   have hi:i ≤ L.length:=hi
   have hw:=qB (n:=i) (by omega)
   obtain ⟨hb1,hb2⟩:=hRi i (by omega)
   have hzml:(zs.map eSpT).length = L.length:=by rw [List.length_map,hzl]
   by_cases h:i < L.length
   ·have hz':i < zs.length:=by omega
    have i1:((i:Int) < (L.length:Int)) = True:=eq_true (by omega)
    have i2:((0:Int) ≤ (i:Int)) = True:=eq_true (by omega)
    obtain ⟨p,hp⟩:∃ p,p = zs[i]:=⟨_,rfl⟩
    have hpz:=hzz zs[i] (List.getElem_mem _)
    have hst:R (i + 1) = stepQ (R i) p:=by
     rw [hR]
     show runQ (zs.take (i + 1)) = stepQ (runQ (zs.take i)) p
     rw [List.take_succ_eq_append_getElem hz',← hp,runQ_snoc]
    have hg:(zs.map eSpT)[i]? = some (eSpT p):=by rw [qD hz',hp]
    rw [← hp] at hpz
    obtain ⟨⟨⟨pf,pg⟩,pn⟩,⟨pF,pG⟩⟩:=p
    simp only [eSpT] at hg
    simp only at hpz
    have hpz2:=hpz.2
    have q1:=jJ (n:=(R i).length + 1) (by omega)
    have q2:=qP (n:=(R i).length + 1) (c:=56) (by omega) (by omega)
    by_cases h0:R i = []
    ·rw [h0,stepQ_nil] at hst
     have j1:(((0:Nat):Int) > 0) = False:=eq_false (by omega)
     rw [h0] at q1 q2 ⊢
     simp only [List.length_nil] at q1 q2
     refine gw96 (Y8 i1 i2 hg hzml hw j1 q1 q2) ?_
     refine qY.on (i + 1) ⟨h,by omega⟩ ?_
     rw [hst]
     exact gw97
    ·obtain ⟨qo,q,eq⟩:=snocN h0
     have hlq:(R i).length = qo.length + 1:=by rw [eq];simp
     obtain ⟨hz1,hz3⟩:=hb2 q (by rw [eq];simp)
     obtain ⟨⟨⟨qf,qg⟩,qn⟩,⟨qF,qG⟩⟩:=q
     simp only at hz1 hz3
     have j1:((((qo.length + 1:Nat)):Int) > 0) = True:=eq_true (by omega)
     have hw1:w64 (((qo.length + 1:Nat):Int) - 1) = ((qo.length:Nat):Int):=by rw [qE (by omega)];omega
     have i3:((0:Int) ≤ ((qo.length:Nat):Int)) = True:=eq_true (by omega)
     have i4:(((qo.length:Nat):Int) < ((qo.length + 1:Nat):Int)) = True:=eq_true (by omega)
     have hgz:((R i).map eSpT)[qo.length]? = some [.tag qF (.sl 1 (qf.map eL)),.tag qG (.sl 1 (qg.map eL)),.int qn]:=by
      rw [eq,List.map_append,List.getElem?_append_right (by simp)];simp [eSpT]
     have hxl:((R i).map eSpT).length = qo.length + 1:=by rw [List.length_map,hlq]
     have hk2:=eq_true (And.intro hz3 hpz2)
     rw [hlq] at hb1 q1 q2 ⊢
     by_cases he:cmpS (qf,qg) (pf,pg) = 0
     ·have hd:(cmpS (qf,qg) (pf,pg) == 0) = true:=beq_iff_eq.2 he
      have hwz:=qE (n:=qn + 1) (by omega)
      refine gw98 (Y12 i1 i2 i3 i4 hg hzml hgz hxl hw hw1 hd (Y3 hwz j1 hk2)) ?_
      have hR2:R (i + 1) = qo ++ [(((qf,qg),qn + 1),(qF,qG))]:=by rw [hst,eq];exact stepQ_eq qo _ _ he
      have hse:((R i).map eSpT).set qo.length [.tag qF (.sl 1 (qf.map eL)),.tag qG (.sl 1 (qg.map eL)),.int (qn + 1)] = (R (i + 1)).map eSpT:=by
       rw [hR2,eq,List.map_append,List.set_append_right _ _ (by simp)];simp [eSpT]
      refine qY.on (i + 1) ⟨h,by omega⟩ ?_
      have hl2:(R (i + 1)).length = qo.length + 1:=by rw [hR2];simp
      rw [hl2,← hse]
      exact gw7 Y0
     ·have hd:(cmpS (qf,qg) (pf,pg) == 0) = false:=beq_eq_false_iff_ne.2 he
      refine gw98 (Y12 i1 i2 i3 i4 hg hzml hgz hxl hw hw1 hd (Y4 j1 hk2 q1 q2)) ?_
      have hR2:R (i + 1) = R i ++ [(((pf,pg),pn),(pF,pG))]:=by rw [hst,eq];exact stepQ_ne qo _ _ he
      refine qY.on (i + 1) ⟨h,by omega⟩ ?_
      rw [hR2,List.length_append,hlq]
      exact gw99
   ·have i1:((i:Int) < (L.length:Int)) = False:=eq_false (by omega)
    obtain rfl:i = L.length:=by omega
    refine gw94 i1 ?_
    refine qY.out () trivial ?_
    exact gw7 Y0
  ·rintro _ _
   have hRL:R L.length = runQ zs:=by rw [hR];show runQ (zs.take L.length) = _;rw [← hzl,List.take_length]
   obtain ⟨k1,k2,_,_⟩:=runQ_spec _ zs rfl (fun q hq => (hzz q hq).1)
   rw [hRL]
   refine gw94 Y0 ?_
   refine Ends.un (by simp) hres hrts (r:=?_) (r':=.own 3 ((gathS L).map eSp) true) (l:=[]) (ks:=?_) ?_ ?_ (by simp) ?_ rfl
   rotate_left 2
   focus (simp only [jG,ares,Zg,Zi,seval,reduceCtorEq,Nat.reduceEqDiff];with_reducible rfl)
   focus simp
   have hx:gathS L = (runQ zs).map (·.1):=by
    rw [k1]
    refine IsN.ext xD (yC L) (runsN_sorted xD (M:=L.map nrmS) ?_ ?_) (List.Perm.refl _)
    ·refine (hperm.map (·.1.1)).trans ?_
     have:=congrArg (List.map (·.1)) hJ.eq
     rw [List.map_map,List.map_map,List.take_length] at this
     rw [show (qs.map fun x => x.1.1) = qs.map ((fun x => x.1) ∘ fun x => x.1) from rfl,this]
     exact List.Perm.refl _
    ·exact List.pairwise_map.2 hsort
   rw [hx]
   have hp2:=(hperm.map SpT.bl).flatten
   refine ⟨((runQ zs).map SpT.bl).flatten,?_,fun b hb => hJ.mi b ?_,.inl ⟨3,_,_,rfl,rfl,tag_mkS _⟩⟩
   ·exact (hp2.nodup_iff.2 hJ.nd).sublist (sub_flatN k2)
   ·exact hp2.mem_iff.1 ((sub_flatN k2).subset hb)
end
section
theorem c_slicesGrowL (n:Nat) (w:World) (hn:n ≤ 1000000000):Calls Tryz.prog 183 #[.slice none 0 0,.int .i64 n] w (RetO (RS (RS RI)) w []):=by
 by_cases h0:n = 0
 ·subst h0
  go_enter Tryz.func183,Tryz.ntmps183
  go_wp2_with fail
  go_ret
  exact ⟨_,rfl,Own.nil _ _,Below.refl _ _⟩
 ·obtain ⟨ht,⟨i,hi,hz,hsz,hby⟩,_,_⟩:=tI64S
  have hr:=Lib.run_append_nil_zeros (P:=Tryz.prog) w 36 3 36 24 i (.slice none 0 0) .i64 .i64 ht Tryz.underlying3 hi hz n (by omega) (by omega) (by omega) (by rw [hby];omega)
  have hge:=grownCap_ge w n 0 24
  have hcm:grownCap w n 0 24 ≤ maxLen:=grownCap_le_maxLen w n 0 24 (by unfold maxLen;omega)
  obtain ⟨cp,hcp⟩:∃ cp,cp = grownCap w n 0 24:=⟨_,rfl⟩
  rw [← hcp] at hr hge hcm
  obtain ⟨cur,hcur⟩:∃ cur,cur = Builtin.zeroCells (Value.slice none 0 0).cells n ++ Builtin.zeroCells (Value.slice none 0 0).cells (cp - n):=⟨_,rfl⟩
  have hcs:cur.size = cp * 1:=by
   rw [hcur,Array.size_append,size_zeroCells,size_zeroCells]
   show n * 1 + (cp - n) * 1 = cp * 1
   omega
  rw [← hcur] at hr
  have hrow:Row (w.drew.alloc (.cells cur 24)) (.slice (some ⟨w.heap.size,0,none⟩) 0 cp) 1 0 [] (some w.heap.size) :=
   ⟨rfl,.inr ⟨w.heap.size,cp,cur,24,rfl,rfl,Go.heap_alloc_new w.drew _,Nat.zero_le _,hcm,hcs,by simp⟩⟩
  have hown:Own (RS (RS RI)) w.heap.size (w.drew.alloc (.cells cur 24)).heap.size (w.drew.alloc (.cells cur 24)) [.slice (some ⟨w.heap.size,0,none⟩) 0 cp] [] :=
   Own.mk' (og:=some w.heap.size) (F:=[]) (ds:=[]) hrow ⟨rfl,rfl⟩ (by simp) (fun b hb => by simp at hb;subst hb;simp)
  have hbel:Below w.heap.size w (w.drew.alloc (.cells cur 24)):=⟨rfl,rfl,rfl,by simp,fun k hk => Below.heap_alloc w.drew _ k hk⟩
  have HR:=Lib.hid hr
  have HO:=Lib.hid hown
  have hp:(0:Int) < (n:Int):=by omega
  have hp2:¬ ((n:Int) < 0):=by omega
  unfold maxLen at hcm
  clear hr hown hrow hcp hcur hi hz hsz hby ht hcs
  go_enter Tryz.func183,Tryz.ntmps183
  go_wp2_with (at_builtin;refine xW (o:=⟨some 22,_,_,_,_,_⟩) ?_)
  refine jA.go ?_
  refine Lib.wpList_append_run w rfl _ _ _ _ rfl _ _ rfl rfl _ _ HR.out ?_
  go_wp2_with fail
  go_ret
  exact ⟨_,rfl,HO.out,hbel⟩
theorem a_slicesGrowL (n:Nat) (hn:n ≤ 1000000000):AFn Tryz.prog 183 [[.raw (.slice none 0 0)],eI n] (· = [.own 1 [] true]) :=
 AFn.of_o (xs:=[]) (encS encI) (enters_of Tryz.func183 rfl rfl) (fun w A vs ⟨v1,_,e1,h1,v2,_,e2,h2,e3⟩ => by
  subst e3;subst e2;subst e1
  rw [arg_int h2,(yM.1 h1).1]
  exact c_slicesGrowL n w hn)
def eLLL' (x:List (List Int)):List D:=[.sl 1 (x.map eL)]
def cntL (bs:List (List (List Int))):Nat:=(bs.map List.length).sum
theorem xK0 (bs:List (List (List Int))) (k:Nat) (h:k < bs.length):cntL (bs.take (k + 1)) = cntL (bs.take k) + bs[k].length:=by
 unfold cntL
 rw [List.take_succ_eq_append_getElem h,List.map_append,List.sum_append];simp
theorem cntL_flat (bs:List (List (List Int))):bs.flatten.length = cntL bs:=by simp [cntL,List.length_flatten]
theorem cntL_take (bs:List (List (List Int))) (k:Nat):cntL (bs.take k) ≤ cntL bs:=by
 rw [← cntL_flat,← cntL_flat]
 conv => rhs;rw [← List.take_append_drop k bs]
 rw [List.flatten_append,List.length_append]
 omega
theorem kH0 (bs:List (List (List Int))) (hsz:cntL bs ≤ 1000000) (hl:bs.length ≤ 1000000):AFn Tryz.prog 123 [[.sl 1 (bs.map eLLL')]] (· = [.own 1 (bs.flatten.map eL) false]):=by
 refine AFn.of_runs (qQ 36) Tryz.func123 rfl rfl rfl gz ?_
 have hres:Tryz.f123.results.toList = [.tmp 2]:=rfl
 have hrts:Tryz.f123.resultTypes.toList = [36]:=rfl
 simp only [qV,qT,eL,eI,eLL,eB,Nat.zero_add,Nat.reduceAdd]
 intro M
 refine qJ.of ?_
 refine gw100 ?_
 refine qJ.loop (β:=Nat) (γ:=Unit) (fun i => ⟨[(0,.c (.val (.sl 1 (bs.map eLLL')))),(3,.c (.val (.int (cntL (bs.take i):Nat)))),(9,.c (.val (.sl 1 (bs.map eLLL')))),(10,.c (.val (.int bs.length))),(11,.c (.val (.int i)))],[]⟩) (fun i => i ≤ bs.length) (fun i => bs.length - i)
  (fun _ => ⟨[(0,.c (.val (.sl 1 (bs.map eLLL')))),(3,.c (.val (.int (cntL bs:Nat))))],[]⟩) (fun _ => True) 0 (Nat.zero_le _) ?_ ?_ ?_
 ·exact gw101 (show cntL [] = 0 from rfl)
 ·intro i hi
  have hi:i ≤ bs.length:=hi
  have hw:=qB (n:=i) (by omega)
  by_cases h:i < bs.length
  ·have i1:((i:Int) < (bs.length:Int)) = True:=eq_true (by omega)
   have i2:((0:Int) ≤ (i:Int)) = True:=eq_true (by omega)
   obtain ⟨f,hf⟩:∃ f,f = bs[i]:=⟨_,rfl⟩
   have hg:(bs.map eLLL')[i]? = some [.sl 1 (f.map eL)]:=by rw [qD h,hf];rfl
   have hst:=xK0 bs i h
   have hle:=cntL_take bs (i + 1)
   rw [← hf] at hst
   have hws:w64 ((cntL (bs.take i):Int) + (f.length:Int)) = ((cntL (bs.take (i + 1)):Nat):Int):=by rw [qE (by omega)];omega
   have j1:(((cntL (bs.take (i + 1)):Nat):Int) < 0) = False:=eq_false (by omega)
   refine gw102 (Y6 i1 i2 hg hw hws j1) ?_
   refine qY.on (i + 1) ⟨h,by omega⟩ ?_
   exact gw7 Y0
  ·have i1:((i:Int) < (bs.length:Int)) = False:=eq_false (by omega)
   obtain rfl:i = bs.length:=by omega
   rw [List.take_length]
   refine gw103 i1 ?_
   refine qY.out () trivial ?_
   exact gw7 Y0
 ·rintro _ _
  have hgr:=a_slicesGrowL (cntL bs) (by omega)
  refine gw100 ?_
  refine qJ.regCut (qQ 36) Tab.none 1 (s1:=?_) ?_ ?_
  rotate_left 1
  focus (refine Work.mk ?_;simp only [Zg,Zi,seval,reduceCtorEq,Nat.reduceEqDiff];with_reducible rfl)
  simp only [List.toList_toArray,List.drop_succ_cons,List.drop_zero]
  refine qZ.callNilP (qQ 36) (d:=24) (g:=183) (xs:=[]) (tx:=[]) (pre:=[]) (ys:=[.tmp 23]) (ty:=[3]) (post:=[eI (cntL bs:Nat)]) rfl (by decide) rfl rfl rfl rfl rfl rfl rfl rfl hgr rfl ?_
  refine qZ.opsT (qQ 36) (T:=Tab.none) (s':=?_) ?_ ?_
  rotate_left 1
  focus (simp only [Zg,Zi,seval,reduceCtorEq,Nat.reduceEqDiff];with_reducible rfl)
  refine gw100 ?_
  refine qJ.loop (β:=Nat) (γ:=Unit) (fun i => ⟨[(6,.c (.own 6 (bs.take i).flatten.length)),(25,.c (.val (.sl 1 (bs.map eLLL')))),(26,.c (.val (.int bs.length))),(27,.c (.val (.int i)))],[(6,.row 1 ((bs.take i).flatten.map eL) false)]⟩) (fun i => i ≤ bs.length) (fun i => bs.length - i)
   (fun _ => ⟨[(6,.c (.own 6 bs.flatten.length))],[(6,.row 1 (bs.flatten.map eL) false)]⟩) (fun _ => True) 0 (Nat.zero_le _) ?_ ?_ ?_
  ·exact gw104
  ·intro i hi
   have hi:i ≤ bs.length:=hi
   have hw:=qB (n:=i) (by omega)
   by_cases h:i < bs.length
   ·have i1:((i:Int) < (bs.length:Int)) = True:=eq_true (by omega)
    have i2:((0:Int) ≤ (i:Int)) = True:=eq_true (by omega)
    obtain ⟨f,hf⟩:∃ f,f = bs[i]:=⟨_,rfl⟩
    have hg:(bs.map eLLL')[i]? = some [.sl 1 (f.map eL)]:=by rw [qD h,hf];rfl
    have hst:=xK0 bs i h
    have hle:=cntL_take bs (i + 1)
    rw [← hf] at hst
    have hfl:(bs.take (i + 1)).flatten = (bs.take i).flatten ++ f:=by rw [List.take_succ_eq_append_getElem h,List.flatten_append,hf];simp
    have hcl:=cntL_flat (bs.take i)
    have q1:=jJ (n:=(bs.take i).flatten.length + f.length) (by omega)
    have q2:=qP (n:=(bs.take i).flatten.length + f.length) (c:=24) (by omega) (by omega)
    refine gw102 (Y6 i1 i2 hg hw q1 q2) ?_
    refine qY.on (i + 1) ⟨h,by omega⟩ ?_
    rw [hfl]
    exact gw7 Y0
   ·have i1:((i:Int) < (bs.length:Int)) = False:=eq_false (by omega)
    obtain rfl:i = bs.length:=by omega
    rw [List.take_length]
    refine gw103 i1 ?_
    refine qY.out () trivial ?_
    exact gw7 Y0
  ·rintro _ _
   refine gw103 Y0 ?_
   exact gw2
end
section
def codLLL:Cod (List (List (List Int))):=codS 1 codLL
theorem codLLL_d (f g:List (List Int)):codLLL.d [.sl 1 [[.sl 1 (f.map eL)],[.sl 1 (g.map eL)]]] = some [f,g]:=codLLL.de [f,g]
def cat2:List (List (List Int))→Option (List Res)
 | [f,g] => if SmF f∧SmF g then some [.val (.sl 1 ((f ++ g).map eL))] else none
 | _ => none
theorem cat2_eq (f g:List (List Int)):cat2 [f,g] = if SmF f∧SmF g then some [.val (.sl 1 ((f ++ g).map eL))] else none:=rfl
noncomputable def TCat:Tab Tryz.prog :=
 Tab.none.add 123 (tab1 codLLL cat2) (jO fun bs rs h => by
  unfold cat2 at h
  split at h
  ·rename_i f g
   split at h
   ·rename_i hs
    cases h
    have hc:=AFn.val1 (kH0 [f,g] (by simp [cntL];have:=hs.1.1;have:=hs.2.1;omega) (by simp))
    simp only [List.flatten_cons,List.flatten_nil,List.append_nil] at hc
    exact hc
   ·cases h
  ·cases h)
theorem a_branchesOf (t:List Int) (h:qU t) (hl:t.length ≤ 1000):AFn Tryz.prog 103 [eL t] (· = [.own 1 ((brs t).map eL) true]) :=
 afn_L_oo (enters_of Tryz.func103 rfl rfl) (fun u w h' => kF0 u t w h' h (by omega))
theorem foldS_snoc (A:List Spl) (Ls:List (List Spl)) (L:List Spl):foldS A (Ls ++ [L]) = (foldS A Ls).flatMap fun s => L.map (catS s):=by unfold foldS;rw [List.foldl_append];rfl
theorem flatS_len (A L:List Spl):(A.flatMap fun s => L.map (catS s)).length = A.length * L.length:=by
 induction A with
 | nil => simp
 | cons a A ih => rw [List.flatMap_cons,List.length_append,ih,List.length_map,List.length_cons,Nat.succ_mul,Nat.add_comm]
theorem yF0:∀ (n:Nat),n ≤ 8→∀ t:List Int,qU t→t.length ≤ n→AFn Tryz.prog 117 [eL t] (· = [.own 3 ((split t).map eS0) false])
 | 0,_,t,h,hn => by have:=h.pos;omega
 | n + 1,hn8,t,h,hn => by
  have hsb:=wK h
  have hlev:=yB h
  have hbr:=AFn.valT (a_branchesOf t h (by omega))
  have hbl:(brs t).length ≤ 8:=by have:=brs_few h;omega
  have hca:=AFn.valT (xE0 t h (by omega))
  simp only [eL,eLL] at hbr hca
  have hAg:∀ k,(∀ s ∈ prodS (((brs t).take k).map split),xY (qX ((brs t).take k)) s)∧(prodS (((brs t).take k).map split)).length ≤ 256∧qX ((brs t).take k) ≤ 7:=fun k => by
   have h1:=yP0 (brs t) k
   exact ⟨kJ (vL hlev),vE (vL hlev) (by omega),by omega⟩
  rw [jU0 h]
  refine AFn.of_runs (qQ 80) Tryz.func117 rfl rfl rfl gz ?_
  have hres:Tryz.f117.results.toList = [.tmp 2]:=rfl
  have hrts:Tryz.f117.resultTypes.toList = [33]:=rfl
  simp only [qV,qT,eL,eI,eLL,eB,Nat.zero_add,Nat.reduceAdd]
  intro M
  refine qJ.of ?_
  refine gw105 ?_
  refine qJ.loop (β:=Nat) (γ:=Unit) (fun k => ⟨[(0,.c (.val (.sl 1 (t.map eI)))),(3,.c (.own 3 (prodS (((brs t).take k).map split)).length)),(16,.c (.val (.sl 1 ((brs t).map eL)))),(17,.c (.val (.int (brs t).length))),(18,.c (.val (.int k)))],[(3,.row 3 ((prodS (((brs t).take k).map split)).map eS0) false)]⟩) (fun k => k ≤ (brs t).length) (fun k => (brs t).length - k)
   (fun _ => ⟨[(0,.c (.val (.sl 1 (t.map eI)))),(3,.c (.own 3 (prodS ((brs t).map split)).length))],[(3,.row 3 ((prodS ((brs t).map split)).map eS0) false)]⟩) (fun _ => True) 0 (Nat.zero_le _) ?_ ?_ ?_
  ·exact gw106 (show prodS [] = [([],[])] from rfl)
  ·intro k hk
   have hk:k ≤ (brs t).length:=hk
   have hwk:=qB (n:=k) (by omega)
   obtain ⟨g1,g2,g3⟩:=hAg k
   by_cases hkb:k < (brs t).length
   ·have i1:((k:Int) < ((brs t).length:Int)) = True:=eq_true (by omega)
    have i2:((0:Int) ≤ (k:Int)) = True:=eq_true (by omega)
    obtain ⟨b,hb⟩:∃ b,b = (brs t)[k]:=⟨_,rfl⟩
    have hbm:b ∈ brs t:=by rw [hb];exact List.getElem_mem _
    have hg:((brs t).map eL)[k]? = some [.sl 1 (b.map eI)]:=by rw [qD hkb,hb];rfl
    have hle:((brs t).map eL).length = (brs t).length:=List.length_map _
    have hblen:=xS h b hbm
    have hih:=AFn.val1 (yF0 n (by omega) b (hlev b hbm) (by omega))
    have hgB:=vP _ (Nat.le_refl _) (hlev b hbm)
    have hlB:(split b).length ≤ 256:=by
     have h1:=wP _ (Nat.le_refl _) (hlev b hbm)
     have h2:2 ^ b.length ≤ 2 ^ 8:=Nat.pow_le_pow_right (by decide) (by omega)
     omega
    have htk:prodS (((brs t).take (k + 1)).map split) = (prodS (((brs t).take k).map split)).flatMap fun s => (split b).map (catS s):=by
     rw [hb,List.take_succ_eq_append_getElem hkb,List.map_append];exact foldS_snoc _ _ _
    have hn2:(prodS (((brs t).take (k + 1)).map split)).length ≤ 256:=(hAg (k + 1)).2.1
    obtain ⟨A,hA⟩:∃ A,A = prodS (((brs t).take k).map split):=⟨_,rfl⟩
    obtain ⟨B,hB⟩:∃ B,B = split b:=⟨_,rfl⟩
    rw [← hA] at g1 g2 htk ⊢
    rw [← hB] at hih hgB hlB htk
    rw [htk] at hn2
    simp only [eL] at hih
    have hsA:∀ s ∈ A,SmS s:=fun s hs => ((g1 s hs).ha (by omega)).sm
    have hsB:∀ s ∈ B,SmS s:=fun s hs => ((hgB s hs).ha (by omega)).sm
    have hAl:(A.map eS0).length = A.length:=List.length_map _
    refine gw107 (Y4 i1 i2 hg hle) ?_
    refine qJ.loop (β:=Nat) (γ:=Unit) (fun i => ⟨[(0,.c (.val (.sl 1 (t.map eI)))),(3,.c (.own 3 A.length)),(5,.c (.val (.sl 1 (b.map eI)))),(6,.c (.own 6 ((A.take i).flatMap fun s => B.map (catS s)).length)),(16,.c (.val (.sl 1 ((brs t).map eL)))),(17,.c (.val (.int (brs t).length))),(18,.c (.val (.int k))),(23,.c (.own 3 A.length)),(24,.c (.val (.int A.length))),(25,.c (.val (.int i)))],
      [(3,.row 3 (A.map eS0) false),(6,.row 3 (((A.take i).flatMap fun s => B.map (catS s)).map eS0) false)]⟩) (fun i => i ≤ A.length) (fun i => A.length - i)
     (fun _ => ⟨[(0,.c (.val (.sl 1 (t.map eI)))),(6,.c (.own 6 (A.flatMap fun s => B.map (catS s)).length)),(16,.c (.val (.sl 1 ((brs t).map eL)))),(17,.c (.val (.int (brs t).length))),(18,.c (.val (.int k)))],[(6,.row 3 ((A.flatMap fun s => B.map (catS s)).map eS0) false)]⟩) (fun _ => True) 0 (Nat.zero_le _) ?_ ?_ ?_
    ·exact gw108
    ·intro i hi
     have hi:i ≤ A.length:=hi
     have hwi:=qB (n:=i) (by omega)
     by_cases hiA:i < A.length
     ·have j1:((i:Int) < (A.length:Int)) = True:=eq_true (by omega)
      have j2:((0:Int) ≤ (i:Int)) = True:=eq_true (by omega)
      obtain ⟨s,hs⟩:∃ s,s = A[i]:=⟨_,rfl⟩
      have hsm:=hsA A[i] (List.getElem_mem _)
      have hgs:(A.map eS0)[i]? = some [.sl 1 (s.1.map eL),.sl 1 (s.2.map eL),.int 0]:=by rw [qD hiA,hs];rfl
      have htkA:(A.take (i + 1)).flatMap (fun s => B.map (catS s)) = ((A.take i).flatMap fun s => B.map (catS s)) ++ B.map (catS s):=by
       rw [hs,List.take_succ_eq_append_getElem hiA,List.flatMap_append];simp
      have hXl:((A.take i).flatMap fun s => B.map (catS s)).length + B.length ≤ 256:=by
       rw [flatS_len] at hn2 ⊢
       rw [List.length_take,Nat.min_eq_left hi]
       have:(i + 1) * B.length ≤ A.length * B.length:=Nat.mul_le_mul_right _ hiA
       rw [Nat.succ_mul] at this;omega
      rw [← hs] at hsm
      obtain ⟨X,hX⟩:∃ X,X = (A.take i).flatMap fun s => B.map (catS s):=⟨_,rfl⟩
      rw [← hX] at htkA hXl ⊢
      have hBl:(B.map eS0).length = B.length:=List.length_map _
      refine gw109 (Y5 j1 j2 hgs hAl hBl) ?_
      refine qJ.loop (β:=Nat) (γ:=Unit) (fun j => ⟨[(0,.c (.val (.sl 1 (t.map eI)))),(3,.c (.own 3 A.length)),(5,.c (.val (.sl 1 (b.map eI)))),(6,.c (.own 6 (X ++ (B.take j).map (catS s)).length)),(8,.optr 8 0 0),(16,.c (.val (.sl 1 ((brs t).map eL)))),(17,.c (.val (.int (brs t).length))),(18,.c (.val (.int k))),(23,.c (.own 3 A.length)),(24,.c (.val (.int A.length))),(25,.c (.val (.int i))),(30,.c (.val (.sl 3 (B.map eS0)))),(31,.c (.val (.int B.length))),(32,.c (.val (.int j)))],
        [(3,.row 3 (A.map eS0) false),(6,.row 3 ((X ++ (B.take j).map (catS s)).map eS0) false),(8,.row 3 [[.sl 1 (s.1.map eL),.sl 1 (s.2.map eL),.int 0]] false)]⟩) (fun j => j ≤ B.length) (fun j => B.length - j)
       (fun _ => ⟨[(0,.c (.val (.sl 1 (t.map eI)))),(3,.c (.own 3 A.length)),(5,.c (.val (.sl 1 (b.map eI)))),(6,.c (.own 6 (X ++ B.map (catS s)).length)),(16,.c (.val (.sl 1 ((brs t).map eL)))),(17,.c (.val (.int (brs t).length))),(18,.c (.val (.int k))),(23,.c (.own 3 A.length)),(24,.c (.val (.int A.length))),(25,.c (.val (.int i)))],
        [(3,.row 3 (A.map eS0) false),(6,.row 3 ((X ++ B.map (catS s)).map eS0) false)]⟩) (fun _ => True) 0 (Nat.zero_le _) ?_ ?_ ?_
      ·exact gw58
      ·intro j hj
       have hj:j ≤ B.length:=hj
       have hwj:=qB (n:=j) (by omega)
       by_cases hjB:j < B.length
       ·have l1:((j:Int) < (B.length:Int)) = True:=eq_true (by omega)
        have l2:((0:Int) ≤ (j:Int)) = True:=eq_true (by omega)
        obtain ⟨c,hc⟩:∃ c,c = B[j]:=⟨_,rfl⟩
        have hcm:=hsB B[j] (List.getElem_mem _)
        have hgc:(B.map eS0)[j]? = some [.sl 1 (c.1.map eL),.sl 1 (c.2.map eL),.int 0]:=by rw [qD hjB,hc];rfl
        have htkB:X ++ (B.take (j + 1)).map (catS s) = (X ++ (B.take j).map (catS s)) ++ [catS s c]:=by
         rw [hc,List.take_succ_eq_append_getElem hjB,List.map_append,List.append_assoc];rfl
        rw [← hc] at hcm
        have hYl:(X ++ (B.take j).map (catS s)).length ≤ 256:=by rw [List.length_append,List.length_map,List.length_take];omega
        obtain ⟨Y,hY⟩:∃ Y,Y = X ++ (B.take j).map (catS s):=⟨_,rfl⟩
        rw [← hY] at htkB hYl ⊢
        have q1:=jJ (n:=Y.length + 1) (by omega)
        have q2:=qP (n:=Y.length + 1) (c:=56) (by omega) (by omega)
        have hYm:(Y.map eS0).length = Y.length:=List.length_map _
        have e1:=eq_true (And.intro hsm.1 hcm.1)
        have e2:=eq_true (And.intro hsm.2 hcm.2)
        refine gw110 (Y4 l1 l2 hgc hBl) ?_
        (((with_reducible refine qJ.wFz (qQ 80) TCat qK [41,47] (tr:=?_) (s1:=?_) (rest:=?_) ?_ ?_ ?_);rotate_left 3;(focus ((with_reducible refine QW ?_);simp only [Zg,Zd,Zi,seval,reduceCtorEq,Nat.reduceEqDiff,drunF,kT,devalB,valD,wU,List.contains_cons,List.contains_nil,TCat,TCat,codLLL_d,cat2_eq,e1,e2,q1,q2,hYm];with_reducible rfl));focus ((with_reducible refine QK ?_);simp only [Zk];kernel_rfl));(refine qZ.opsT (qQ 80) (T:=TCat) (s':=?_) ?_ ?_;rotate_left 1;focus (simp only [Zg,Zi,seval,reduceCtorEq,Nat.reduceEqDiff,TCat,TCat,codLLL_d,cat2_eq,e1,e2,q1,q2,hYm];with_reducible rfl)))
        refine gw111 hwj ?_
        refine qY.on (j + 1) ⟨hjB,by omega⟩ ?_
        rw [htkB]
        exact gw112
       ·have l1:((j:Int) < (B.length:Int)) = False:=eq_false (by omega)
        obtain rfl:j = B.length:=by omega
        rw [List.take_length]
        refine gw111 l1 ?_
        refine qY.out () trivial ?_
        exact gw7 Y0
      ·rintro _ _
       refine gw111 hwi ?_
       refine qY.on (i + 1) ⟨hiA,by omega⟩ ?_
       rw [htkA]
       exact gw7 Y0
     ·have j1:((i:Int) < (A.length:Int)) = False:=eq_false (by omega)
      obtain rfl:i = A.length:=by omega
      rw [List.take_length]
      refine gw111 j1 ?_
      refine qY.out () trivial ?_
      exact gw7 Y0
    ·rintro _ _
     refine gw111 hwk ?_
     refine qY.on (k + 1) ⟨hkb,by omega⟩ ?_
     rw [htk]
     exact gw7 Y0
   ·have i1:((k:Int) < ((brs t).length:Int)) = False:=eq_false (by omega)
    obtain rfl:k = (brs t).length:=by omega
    rw [List.take_length]
    refine gw111 i1 ?_
    refine qY.out () trivial ?_
    exact gw7 Y0
  ·rintro _ _
   have g1:=kJ hlev
   have g2:=vE hlev (by omega)
   obtain ⟨A,hA⟩:∃ A,A = prodS ((brs t).map split):=⟨_,rfl⟩
   rw [← hA] at g1 g2 ⊢
   refine gw111 Y0 ?_
   refine qJ.loop (β:=Nat) (γ:=Unit) (fun i => ⟨[(0,.c (.val (.sl 1 (t.map eI)))),(3,.c (.own 3 A.length)),(56,.c (.own 3 A.length)),(57,.c (.val (.int A.length))),(58,.c (.val (.int i)))],[(3,.row 3 ((A.take i).map (fun s => eS0 (rootS s)) ++ (A.drop i).map eS0) false)]⟩) (fun i => i ≤ A.length) (fun i => A.length - i)
    (fun _ => ⟨[(0,.c (.val (.sl 1 (t.map eI)))),(3,.c (.own 3 A.length))],[(3,.row 3 (A.map fun s => eS0 (rootS s)) false)]⟩) (fun _ => True) 0 (Nat.zero_le _) ?_ ?_ ?_
   ·exact gw113
   ·intro i hi
    have hi:i ≤ A.length:=hi
    have hwi:=qB (n:=i) (by omega)
    have hrl:((A.take i).map (fun s => eS0 (rootS s)) ++ (A.drop i).map eS0).length = A.length:=by rw [List.length_append,List.length_map,List.length_map,List.length_take,List.length_drop];omega
    by_cases hiA:i < A.length
    ·have j1:((i:Int) < (A.length:Int)) = True:=eq_true (by omega)
     have j2:((0:Int) ≤ (i:Int)) = True:=eq_true (by omega)
     obtain ⟨s,hs⟩:∃ s,s = A[i]:=⟨_,rfl⟩
     have hgood:=g1 A[i] (List.getElem_mem _)
     have hdr:A.drop i = s :: A.drop (i + 1):=by rw [hs];exact List.drop_eq_getElem_cons hiA
     have hti:((A.take i).map fun s => eS0 (rootS s)).length = i:=by rw [List.length_map,List.length_take];omega
     have hgs:((A.take i).map (fun s => eS0 (rootS s)) ++ (A.drop i).map eS0)[i]? = some [.sl 1 (s.1.map eL),.sl 1 (s.2.map eL),.int 0]:=by
      rw [List.getElem?_append_right (by omega),hti,Nat.sub_self,hdr];rfl
     rw [← hs] at hgood
     have hlv:∀ b ∈ s.2,qU b:=fun b hb => (hgood.1 b (by simp [hb])).1
     have hsum:=hgood.2
     have hro:=AFn.valT (a_rootOn s.2 (fun b hb => (hlv b hb).small (by have:=jL hb;omega)) (by omega))
     have hcr:=AFn.valT (xE0 (qC s.2) (wM hlv) (by rw [kY];omega))
     simp only [eL,eLL] at hro hcr
     refine gw114 (Y5 j1 j2 hgs hrl hwi) ?_
     have hset:((A.take i).map (fun s => eS0 (rootS s)) ++ (A.drop i).map eS0).set i [.sl 1 (s.1.map eL),.sl 1 [[.sl 1 ((canon (qC s.2)).map eI)]],.int 0] = (A.take (i + 1)).map (fun s => eS0 (rootS s)) ++ (A.drop (i + 1)).map eS0:=by
      rw [List.set_append_right _ _ (by omega),hti,Nat.sub_self,hdr,List.map_cons,List.set_cons_zero,List.take_succ_eq_append_getElem hiA,List.map_append,List.append_assoc,← hs]
      rfl
     refine qY.on (i + 1) ⟨hiA,by omega⟩ ?_
     rw [← hset]
     exact gw7 Y0
    ·have j1:((i:Int) < (A.length:Int)) = False:=eq_false (by omega)
     obtain rfl:i = A.length:=by omega
     have hd0:A.drop A.length = []:=List.drop_length
     refine gw111 j1 ?_
     refine qY.out () trivial ?_
     rw [List.take_length,hd0,List.map_nil,List.append_nil]
     exact gw7 Y0
   ·rintro _ _
    have q1:=jJ (n:=A.length + 1) (by omega)
    have q2:=qP (n:=A.length + 1) (c:=56) (by omega) (by omega)
    have hml:(A.map fun s => eS0 (rootS s)).length = A.length:=List.length_map _
    refine gw115 (Y3 q1 q2 hml) ?_
    exact gw116
end
section
section
variable {α:Type} (f g:α→List (List D)) (n:α→Int)
def e3 (x:α):List D:=[.sl 1 (f x),.sl 1 (g x),.int (n x)]
def e3T (q:α × (List Nat × List Nat)):List D:=[.tag q.2.1 (.sl 1 (f q.1)),.tag q.2.2 (.sl 1 (g q.1)),.int (n q.1)]
def bl3 (q:α × (List Nat × List Nat)):List Nat:=q.2.1 ++ q.2.2
theorem tag_mk3:∀ (zs:List (α × (List Nat × List Nat))),TagL ((zs.map (·.1)).map (e3 f g n)) (zs.map (e3T f g n)) ((zs.map bl3).flatten)
 | [] => ⟨rfl,rfl⟩
 | z :: zs => ⟨_,_,bl3 z,_,rfl,rfl,⟨_,_,z.2.1,z.2.2,rfl,rfl,.inl rfl,⟨_,_,z.2.2,[],rfl,(List.append_nil _).symm,.inl rfl,⟨_,[],[],[],rfl,rfl,.inr ⟨rfl,rfl,rfl⟩,rfl,rfl⟩⟩⟩,tag_mk3 zs⟩
theorem tag_rows3:∀ {L:List α} {xs':List (List D)} {F:List Nat},TagL (L.map (e3 f g n)) xs' F→kI (L.map (e3 f g n)) xs'→∃ zs:List (α × (List Nat × List Nat)),L = zs.map (·.1)∧xs' = zs.map (e3T f g n)∧F = (zs.map bl3).flatten
 | [],xs',F,⟨h1,h2⟩,_ => ⟨[],rfl,h1,h2⟩
 | p :: L,xs',F,⟨y,ys,G,H,h1,h2,h3,h4⟩,⟨y',ys',p1,p2,p3⟩ => by
  obtain ⟨e1,e2⟩:y = y'∧ys = ys':=by rw [h1] at p1;simpa using p1
  subst e1;subst e2
  obtain ⟨zs,e1,e2,e3'⟩:=tag_rows3 h4 p3
  obtain ⟨y0,ys0,G0,H0,k1,k2,k3,y1,ys1,G1,H1,k4,k5,k6,y2,ys2,G2,H2,m4,m5,m6,m7,m8⟩:=h3
  obtain ⟨x0,xs0,a1,_,x1,xs1,a2,_,x2,xs2,a3,a4,_⟩:=p2
  obtain ⟨b1,b2⟩:y0 = x0∧ys0 = xs0:=by rw [k1] at a1;simpa using a1
  subst b1;subst b2
  obtain ⟨b1,b2⟩:y1 = x1∧ys1 = xs1:=by rw [k4] at a2;simpa using a2
  subst b1;subst b2
  obtain ⟨b1,b2⟩:y2 = x2∧ys2 = xs2:=by rw [m4] at a3;simpa using a3
  subst b1;subst b2
  have hy2:=a4 rfl
  subst m7;subst m8
  have hG2:G2 = []:=by
   rcases m6 with m6|⟨_,_,m6⟩
   ·rw [m6] at hy2;cases hy2
   ·exact m6
  subst hG2;subst hy2
  rcases k3 with rfl|⟨k3,_⟩
  ·rcases k6 with rfl|⟨k6,_⟩
   ·exact ⟨(p,(G0,G1)) :: zs,by rw [e1];rfl,by rw [h1,k1,k4,m4,e2];rfl,by rw [h2,k2,k5,m5,e3'];simp [bl3]⟩
   ·cases k6
  ·cases k3
end
abbrev Cu:=(List (List Int) × List Int) × Int
def eCu:Cu→List D:=e3 (fun c:Cu => c.1.1.map eL) (fun c => c.1.2.map eI) (·.2)
def cutS (z:Spl × Int):Cu:=((z.1.1,z.1.2.headD []),z.2)
def cutsL (t:List Int):List Cu:=(gathS (split t)).map cutS
section
variable {P:Program} {cfg:Cfg} {M:Nat→Prop} {ops:Array Oper} {s:St} {w0:W0} {w:World} {Ok:Nat→Prop} {N:Nat} {σ:Asg} {a:Act} {fs:List Fr} {Q:Exit→St→Prop}
theorem qZ.nilA {l:List Oper} {Q:St→Prop} {r k:Nat} {pre post:List AC} (hk:0 < k) (hr:look r s.regs = some (.agg (pre ++ .nil :: post)))
  (h:qZ P cfg M ops l Q ⟨insR r (.agg (pre ++ .val (.tag [] (.sl k [])) :: post)) s.regs,s.heap⟩):qZ P cfg M ops l Q s:=by
 intro w0 Ok σ a w Q' hM hS hQ
 refine h w0 Ok σ a w Q' hM ⟨hS.below,hS.ok1,hS.ok2,hS.defers,hS.size,fun q av hq => ?_,hS.rows,hS.disj⟩ hQ
 rw [qR] at hq
 by_cases e:r = q
 ·rw [if_pos e] at hq
  subst e
  cases hq
  obtain ⟨us,hv1,hv2⟩:=hS.regs r _ hr
  refine ⟨us,hv1,relCs_repl hv2 (fun v _ hn => ?_)⟩
  have hn:v = .slice none 0 0:=hn
  subst hn
  exact kQ.2 ⟨by simp,kH.2 ⟨none,[],[],Row.nil _ k,ownR.nil hk,rfl⟩⟩
 ·rw [if_neg e] at hq
  exact hS.regs q av hq
theorem qZ.openR {l:List Oper} {Q:St→Prop} {r k:Nat} {G:List Nat} {xs:List (List D)} (hr:look r s.regs = some (.c (.val (.tag G (.sl k xs)))))
  (h:∀ xs' F,TagL xs xs' F→kI xs xs'→F.Sublist G→qZ P cfg M ops l Q ⟨insR r (.c (.val (.sl k xs'))) s.regs,s.heap⟩):qZ P cfg M ops l Q s:=by
 intro w0 Ok σ a w Q' hM hS hQ
 obtain ⟨xs',F,h1,h2,h3,h4⟩:=hS.openR hr
 exact h xs' F h1 h2 h3 w0 Ok σ a w Q' hM h4 hQ
end
theorem tag_one {t:List Int} {xs':List (List D)} {F:List Nat} (h:TagL [[.sl 1 (t.map eI)]] xs' F):xs' = [[.tag F (.sl 1 (t.map eI))]]:=by
 obtain ⟨y,ys,G,H,h1,h2,⟨y0,ys0,G0,H0,k1,k2,k3,k4,k5⟩,h3,h4⟩:=h
 subst h3;subst h4;subst k4;subst k5
 rcases k3 with rfl|⟨k3,_⟩
 ·rw [h1,k1,h2,k2];simp
 ·cases k3
theorem split_trunk (t:List Int) (h:qU t):∀ s ∈ split t,s.2.length ≤ 1:=fun s hs => by
 rw [jU0 h] at hs
 rcases List.mem_append.1 hs with hs|hs
 ·obtain ⟨a,_,rfl⟩:=List.mem_map.1 hs
  exact Nat.le_refl _
 ·obtain rfl:=List.mem_singleton.1 hs
  exact Nat.zero_le _
theorem gath_trunk (t:List Int) (h:qU t):∀ z ∈ gathS (split t),z.1.2.length ≤ 1:=fun z hz => by
 obtain ⟨s,hs,e⟩:=List.mem_map.1 ((yC (split t)).key z hz)
 rw [← e]
 show (sortC cmpT s.2).length ≤ 1
 rw [vT];exact split_trunk t h s hs
theorem a_cutsOf (t:List Int) (h:qU t) (hl:t.length ≤ 8):AFn Tryz.prog 58 [eL t] (· = [.own 3 ((cutsL t).map eCu) true]):=by
 have hsp:=yF0 8 (Nat.le_refl _) t h hl
 have hlen:(split t).length ≤ 256:=by
  have h1:=wP _ (Nat.le_refl _) h
  have h2:2 ^ t.length ≤ 2 ^ 8:=Nat.pow_le_pow_right (by decide) hl
  omega
 have hga:=a_gathered (split t) (by omega) (fun s hs => ((vP _ (Nat.le_refl _) h s hs).ha (by omega)).sm)
 have hgl:(gathS (split t)).length ≤ 256:=by have:=(yC (split t)).len;rw [List.length_map] at this;omega
 have htr:=gath_trunk t h
 obtain ⟨L,hL⟩:∃ L,L = gathS (split t):=⟨_,rfl⟩
 have hcl:cutsL t = L.map cutS:=by rw [hL];rfl
 rw [hcl]
 rw [← hL] at hga hgl htr
 simp only [eL] at hsp
 refine AFn.of_runs (qQ 36) Tryz.func58 rfl rfl rfl gz ?_
 have hres:Tryz.f58.results.toList = [.tmp 2]:=rfl
 have hrts:Tryz.f58.resultTypes.toList = [29]:=rfl
 simp only [qV,qT,eL,eI,eLL,eB,Nat.zero_add,Nat.reduceAdd]
 intro M
 refine qJ.of ?_
 refine gw117 ?_
 refine qJ.tag' 10 (k:=3) (xs:=L.map eSp) rfl ?_
 intro xs' F ht hpl hnd hF
 obtain ⟨zs,e1,e2,e3'⟩:=tag_rows3 _ _ _ ht hpl
 subst e2;subst e3'
 have hzl:zs.length = L.length:=by rw [e1,List.length_map]
 refine qJ.loop (β:=Nat × List (Cu × (List Nat × List Nat))) (γ:=List (Cu × (List Nat × List Nat))) (fun x => ⟨[(3,.c (.own 3 x.2.length)),(10,.c (.own 10 L.length)),(11,.c (.val (.int L.length))),(12,.c (.val (.int x.1)))],[(3,.row 3 (x.2.map (e3T (fun c:Cu => c.1.1.map eL) (fun c => c.1.2.map eI) (·.2))) false),(10,.row 3 (zs.map (e3T (fun z:Spl × Int => z.1.1.map eL) (fun z => z.1.2.map eL) (·.2))) false)]⟩)
  (fun x => x.1 ≤ L.length∧x.2.map (fun q => q.1) = (L.take x.1).map cutS∧((x.2.map bl3).flatten).Sublist ((zs.take x.1).map bl3).flatten) (fun x => L.length - x.1)
  (fun qs => ⟨[(3,.c (.own 3 qs.length))],[(3,.row 3 (qs.map (e3T (fun c:Cu => c.1.1.map eL) (fun c => c.1.2.map eI) (·.2))) false)]⟩) (fun qs => qs.map (fun q => q.1) = L.map cutS∧((qs.map bl3).flatten).Sublist (zs.map bl3).flatten) (0,[]) ⟨Nat.zero_le _,rfl,List.Sublist.refl _⟩ ?_ ?_ ?_
 ·exact gw95
 ·rintro ⟨i,qs⟩ ⟨hi,hq,hsub⟩
  simp only at hi hq hsub ⊢
  have hw:=qB (n:=i) (by omega)
  have hqn:qs.length = i:=by
   have:=congrArg List.length hq
   rw [List.length_map,List.length_map,List.length_take] at this;omega
  have hzm:(zs.map (e3T (fun z:Spl × Int => z.1.1.map eL) (fun z => z.1.2.map eL) (·.2))).length = L.length:=by rw [List.length_map,hzl]
  by_cases hiL:i < L.length
  ·have hiz:i < zs.length:=by omega
   have i1:((i:Int) < (L.length:Int)) = True:=eq_true (by omega)
   have i2:((0:Int) ≤ (i:Int)) = True:=eq_true (by omega)
   obtain ⟨z,hz⟩:∃ z,z = zs[i]:=⟨_,rfl⟩
   have hLi:L[i] = z.1:=by simp only [e1,List.getElem_map,hz]
   have hg:(zs.map (e3T (fun z:Spl × Int => z.1.1.map eL) (fun z => z.1.2.map eL) (·.2)))[i]? = some (e3T (fun z:Spl × Int => z.1.1.map eL) (fun z => z.1.2.map eL) (·.2) z):=by rw [qD hiz,hz]
   have hone:=htr L[i] (List.getElem_mem _)
   have htkz:(zs.take (i + 1)).map bl3 = (zs.take i).map bl3 ++ [bl3 z]:=by rw [List.take_succ_eq_append_getElem hiz,List.map_append,← hz];rfl
   have htkL:(L.take (i + 1)).map cutS = (L.take i).map cutS ++ [cutS z.1]:=by rw [List.take_succ_eq_append_getElem hiL,List.map_append,hLi];rfl
   rw [hLi] at hone
   obtain ⟨⟨⟨f,g⟩,n⟩,⟨F,G⟩⟩:=z
   simp only [e3T] at hg
   simp only at hone
   have q1:=jJ (n:=qs.length + 1) (by omega)
   have q2:=qP (n:=qs.length + 1) (c:=56) (by omega) (by omega)
   match g,hone with
   | [],_ =>
    have j1:((([]:List (List Int)).length:Int) > 0) = False:=eq_false (by simp)
    ((refine gw118 i1 ?_);with_reducible (apply QS (qQ 36) Tab.none;refine QW ?_;simp only [Zg,Zi,seval,reduceCtorEq,Nat.reduceEqDiff,i1];rfl);(refine gw118 i1 ?_))
    ((refine gw119 (Y4 i1 i2 hg hzm) ?_);with_reducible (apply QS (qQ 36) Tab.none;refine QW ?_;simp only [Zg,Zi,seval,reduceCtorEq,Nat.reduceEqDiff,i1,i2,hg,hzm,Int.toNat_natCast];rfl);(refine gw119 (Y4 i1 i2 hg hzm) ?_))
    refine qJ.regCut (qQ 36) Tab.none 5 (s1:=?_) ?_ ?_
    rotate_left 1
    focus (refine Work.mk ?_;simp only [Zg,Zi,seval,reduceCtorEq,Nat.reduceEqDiff];with_reducible rfl)
    simp only [List.toList_toArray,List.drop_succ_cons,List.drop_zero]
    refine qZ.nilA (r:=20) (k:=1) (pre:=[.val (.tag F (.sl 1 (f.map eL)))]) (post:=[.val (.int n)]) (by decide) rfl ?_
    refine qZ.opsT (qQ 36) (T:=Tab.none) (s':=?_) ?_ ?_
    rotate_left 1
    focus (simp only [Zg,Zi,seval,reduceCtorEq,Nat.reduceEqDiff];with_reducible rfl)
    refine gw120 (Y4 j1 hw q1 q2) ?_
    refine qY.on (i + 1,qs ++ [(((f,[]),n),(F,[]))]) ⟨⟨hiL,?_,?_⟩,by show L.length - (i + 1) < L.length - i;omega⟩ ?_
    ·show List.map (fun q:Cu × (List Nat × List Nat) => q.1) (qs ++ [(((f,[]),n),(F,[]))]) = _
     rw [List.map_append,hq,htkL];rfl
    ·show (((qs ++ [(((f,[]),n),(F,[]))]).map bl3).flatten).Sublist _
     rw [htkz,List.map_append,List.flatten_append,List.flatten_append]
     refine List.Sublist.append hsub ?_
     simp [bl3]
    ·exact gw121
   | [tr],_ =>
    have j1:((([tr]:List (List Int)).length:Int) > 0) = True:=eq_true (by simp)
    ((refine gw118 i1 ?_);with_reducible (apply QS (qQ 36) Tab.none;refine QW ?_;simp only [Zg,Zi,seval,reduceCtorEq,Nat.reduceEqDiff,i1];rfl);(refine gw118 i1 ?_))
    ((refine gw119 (Y4 i1 i2 hg hzm) ?_);with_reducible (apply QS (qQ 36) Tab.none;refine QW ?_;simp only [Zg,Zi,seval,reduceCtorEq,Nat.reduceEqDiff,i1,i2,hg,hzm,Int.toNat_natCast];rfl);(refine gw119 (Y4 i1 i2 hg hzm) ?_))
    ((refine gw118 Y0 ?_);with_reducible (apply QS (qQ 36) Tab.none;refine QW ?_;simp only [Zg,Zi,seval,reduceCtorEq,Nat.reduceEqDiff];rfl);(refine gw118 Y0 ?_))
    ((refine gw122 j1 ?_);with_reducible (apply QS (qQ 36) Tab.none;refine QW ?_;simp only [Zg,Zi,seval,reduceCtorEq,Nat.reduceEqDiff,j1,List.length_map];rfl);(refine gw122 j1 ?_))
    refine qJ.regCut (qQ 36) Tab.none 2 (s1:=?_) ?_ ?_
    rotate_left 1
    focus (refine Work.mk ?_;simp only [Zg,Zi,seval,reduceCtorEq,Nat.reduceEqDiff];with_reducible rfl)
    simp only [List.toList_toArray,List.drop_succ_cons,List.drop_zero]
    refine qZ.openR (r:=26) (k:=1) (G:=G) (xs:=[tr].map eL) rfl ?_
    intro ys G' ht1 _ hG'
    have hys:=tag_one ht1
    subst hys
    refine qZ.opsT (qQ 36) (T:=Tab.none) (s':=?_) ?_ ?_
    rotate_left 1
    focus (simp only [Zg,Zi,seval,reduceCtorEq,Nat.reduceEqDiff,List.length_map];with_reducible rfl)
    refine gw123 (Y3 hw q1 q2) ?_
    refine qY.on (i + 1,qs ++ [(((f,tr),n),(F,G'))]) ⟨⟨hiL,?_,?_⟩,by show L.length - (i + 1) < L.length - i;omega⟩ ?_
    ·show List.map (fun q:Cu × (List Nat × List Nat) => q.1) (qs ++ [(((f,tr),n),(F,G'))]) = _
     rw [List.map_append,hq,htkL];rfl
    ·show (((qs ++ [(((f,tr),n),(F,G'))]).map bl3).flatten).Sublist _
     rw [htkz,List.map_append,List.flatten_append,List.flatten_append]
     refine List.Sublist.append hsub ?_
     simp only [bl3,List.map_cons,List.map_nil,List.flatten_cons,List.flatten_nil,List.append_nil]
     exact List.Sublist.append (List.Sublist.refl _) hG'
    ·exact gw121
  ·have i1:((i:Int) < (L.length:Int)) = False:=eq_false (by omega)
   obtain rfl:i = L.length:=by omega
   rw [List.take_length] at hq
   rw [← hzl,List.take_length] at hsub
   refine gw124 i1 ?_
   refine qY.out qs ⟨hq,hsub⟩ ?_
   exact gw7 Y0
 ·rintro qs ⟨hq,hsub⟩
  refine gw124 Y0 ?_
  refine Ends.un (by simp) hres hrts (r:=?_) (r':=.own 3 ((L.map cutS).map eCu) true) (l:=[]) (ks:=?_) ?_ ?_ (by simp) ?_ rfl
  rotate_left 2
  focus (simp only [jG,ares,Zg,Zi,seval,reduceCtorEq,Nat.reduceEqDiff];with_reducible rfl)
  focus simp
  rw [← hq]
  exact ⟨(qs.map bl3).flatten,hnd.sublist hsub,fun b hb => hF b (hsub.subset hb),.inl ⟨3,_,_,rfl,rfl,tag_mk3 _ _ _ qs⟩⟩
end
section
def brOf (t:List Int):List (List Int) × Int:=if lev8 t = true then (forest (brs (canon t)),0) else ([],1)
end
section
section
variable {κ:Type} {c:κ→κ→Int} (hc:Cmp c)
include hc
end
def wF (F:Spl→Int) (f:List (List Int)):Int:=((prodS (f.map split)).map fun s => F (nrmS s)).sum
theorem sum_perm {l m:List Int} (h:l.Perm m):l.sum = m.sum:=by
 induction h with
 | nil => rfl
 | cons q _ ih => rw [List.sum_cons,List.sum_cons,ih]
 | swap p q L => simp only [List.sum_cons];omega
 | trans _ _ h1 h2 => rw [h1,h2]
theorem exp_lin {κ:Type} (F:κ→Int):∀ (L:List (κ × Int)),(∀ z ∈ L,1 ≤ z.2)→((expN L).map F).sum = (L.map fun z => z.2 * F z.1).sum
 | [],_ => rfl
 | z :: L,h => by
  have hz:=h z (by simp)
  rw [yY,List.map_append,List.map_replicate,List.map_cons,List.sum_cons,← exp_lin F L fun q hq => h q (by simp [hq])]
  have e:∀ (n:Nat) (x:Int) (l:List Int),(List.replicate n x ++ l).sum = n * x + l.sum:=by
   intro n x l
   induction n with
   | zero => simp
   | succ n ih => rw [List.replicate_succ,List.cons_append,List.sum_cons,ih,Int.natCast_succ,Int.add_mul];omega
  rw [e,Int.toNat_of_nonneg (by omega)]
theorem gath_lin (F:Spl→Int) (L:List Spl):((gathS L).map fun z => z.2 * F z.1).sum = (L.map fun s => F (nrmS s)).sum:=by
 rw [← exp_lin F _ (yC L).1.2,sum_perm ((yC L).2.map F),List.map_map]
 rfl
theorem lin_copP (F:Spl→Int) (p:Int × List (List Int)):Eqm (lin F (copP p)) (p.1 * wF F p.2):=by
 unfold wF copP
 rw [← gath_lin F]
 generalize gathS (prodS (p.2.map split)) = G
 induction G with
 | nil => simp [lin];exact Eqm.refl _
 | cons z G ih =>
  rw [List.map_cons,yA,List.map_cons,List.sum_cons,Int.mul_add]
  refine Eqm.add ?_ ih
  have h:=(kF (p.1 * z.2)).mulR (F z.1)
  rw [Int.mul_assoc] at h
  exact h
theorem lin_copM (F:Spl→Int):∀ (e:Elt),Eqm (lin F (copM e)) (lin (wF F) e)
 | [] => Eqm.refl _
 | p :: e => by
  have e1:copM (p :: e) = copP p ++ copM e:=by unfold copM;rw [List.flatMap_cons]
  rw [e1,lin_append,yA]
  exact (lin_copP F p).add (lin_copM F e)
theorem copM_range (e:Elt):∀ q ∈ copM e,0 ≤ q.1∧q.1 < 10007:=fun q hq => by
 unfold copM at hq
 obtain ⟨p,_,hq⟩:=List.mem_flatMap.1 hq
 unfold copP at hq
 obtain ⟨z,_,rfl⟩:=List.mem_map.1 hq
 exact jR _
def OkF (g:List (List Int)):Prop:=(∀ t ∈ g,qU t∧canon t = t)∧g.Pairwise fun a b => cmpT a b ≤ 0
theorem copP_key {p:Int × List (List Int)} (h:forB p.2 = true) {q:Int × Spl} (hq:q ∈ copP p):OkF q.2.1∧OkF q.2.2∧qX q.2.1 + qX q.2.2 ≤ 8:=by
 unfold copP at hq
 obtain ⟨z,hz,rfl⟩:=List.mem_map.1 hq
 obtain ⟨_,_,k⟩:=wN (kJ (kX h)) z hz
 obtain ⟨s,hs,e⟩:=List.mem_map.1 ((yC _).key z hz)
 have h8:=(xU h).1
 have e1:z.1.1 = sortC cmpT s.1:=by rw [← e];rfl
 have e2:z.1.2 = sortC cmpT s.2:=by rw [← e];rfl
 refine ⟨⟨fun t ht => k.1 t (by simp only [List.mem_append];exact .inl ht),?_⟩,⟨fun t ht => k.1 t (by simp only [List.mem_append];exact .inr ht),?_⟩,by have:=k.2;simp only;omega⟩
 ·simp only;rw [e1];exact vH yV _
 ·simp only;rw [e2];exact vH yV _
theorem cop_key {e:Elt} (h:elB e = true) {q:Int × Spl} (hq:q ∈ sumS cmpTe (copM e)):OkF q.2.1∧OkF q.2.2∧qX q.2.1 + qX q.2.2 ≤ 8:=by
 obtain ⟨p,hp,e1⟩:=sumS_mem hq
 unfold copM at hp
 obtain ⟨r,hr,hp⟩:=List.mem_flatMap.1 hp
 rw [← e1]
 exact copP_key ((yP h).2.2.2 r hr) hp
structure KoF (e:Elt) (list:List (Int × Spl)) (r:Elt) (whole:List (Int × Spl)):Prop where
 rl:r.length = e.length
 wl:whole.length = list.length + r.length
 all:∀ w ∈ whole,(w.2.2 = []∧∃ q ∈ r,q.1 = w.1∧q.2 = w.2.1) ∨ (∃ T,w.2.2 = [T]∧lev8 T = true∧∃ q ∈ list,q.1 = w.1∧q.2.1 = w.2.1∧q.2.2 = (brOf T).1)
theorem cop_case {e:Elt} (h:elB e = true):copOf e = (sumS cmpTe (copM e),0) ∨ copOf e = ([],3):=by
 unfold copOf
 rw [if_pos h]
 split
 ·exact .inl rfl
 ·exact .inr rfl
end
section
theorem wI (L:Elt) (p:Int × List (List Int)):degE (L ++ [p]) = qX p.2:=by
 unfold degE
 rw [List.getLast?_eq_getElem?]
 simp
theorem cmpF_sum {f g:List (List Int)} (h:cmpF f g < 0):qX f ≤ qX g:=by
 rw [cmpF_N] at h
 split at h <;> omega
theorem nf_deg {L:Elt} {p q:Int × List (List Int)} (h:NfS cmpF (L ++ [p])) (hq:q ∈ L ++ [p]):qX q.2 ≤ qX p.2:=by
 rcases List.mem_append.1 hq with hq|hq
 ·exact cmpF_sum ((List.pairwise_append.1 h.1).2.2 q hq p (by simp))
 ·rw [List.mem_singleton] at hq;subst hq;exact Nat.le_refl _
theorem deg_prod {d e:Elt} (hd:elB d = true) (he:elB e = true) :
  (degE (sumS cmpF (prodL d e)) = -1∧(degE d = -1 ∨ degE e = -1)) ∨ (degE (sumS cmpF (prodL d e)) = degE d + degE e∧degE d ≠ -1∧degE e ≠ -1∧degE (sumS cmpF (prodL d e)) ≠ -1):=by
 rcases xL d with rfl|⟨L,p,rfl⟩
 ·exact .inl ⟨rfl,.inl rfl⟩
 rcases xL e with rfl|⟨M,q,rfl⟩
 ·refine .inl ⟨?_,.inr rfl⟩
  have:prodL (L ++ [p]) [] = []:=by unfold prodL;simp
  rw [this];rfl
 obtain ⟨_,n1,s1,_⟩:=yP hd
 obtain ⟨_,n2,s2,_⟩:=yP he
 obtain ⟨r,hr,hs⟩:=prod_deg n1 n2 s1 s2
 have hnf:=vR yX (M:=prodL (L ++ [p]) (M ++ [q])) jD0
 have hmem:∀ x ∈ sumS cmpF (prodL (L ++ [p]) (M ++ [q])),qX x.2 ≤ qX p.2 + qX q.2:=fun x hx => by
  obtain ⟨y,hy,e1⟩:=sumS_mem hx
  rw [← e1]
  unfold prodL at hy
  obtain ⟨a,ha,hy⟩:=List.mem_flatMap.1 hy
  obtain ⟨b,hb,rfl⟩:=List.mem_map.1 hy
  simp only
  rw [kZ]
  have:=nf_deg n1 ha
  have:=nf_deg n2 hb
  omega
 rw [wI,wI]
 generalize sumS cmpF (prodL (L ++ [p]) (M ++ [q])) = S at hr hnf hmem ⊢
 rcases xL S with rfl|⟨K,z,rfl⟩
 ·cases hr
 ·have h1:=nf_deg hnf hr
  have h2:=hmem z (by simp)
  rw [wI]
  right
  omega
structure EmA (d e p:Elt):Prop where
 bd:elB d = true
 be:elB e = true
 bp:elB p = true
 q:timOf e d = (p,0)
 deg:(degE p = -1∧(degE d = -1 ∨ degE e = -1)) ∨ (degE p = degE d + degE e∧degE d ≠ -1∧degE e ≠ -1∧degE p ≠ -1)
 two:∃ s,sclOf p 2 = (s,0)∧elB s = true
theorem em_one {d e p:Elt} (h:timOf d e = (p,0)):EmA d e p:=by
 by_cases hb:elB d = true∧elB e = true
 ·rcases jA0 hb.1 hb.2 with ⟨h1,h2⟩|h1
  ·rw [h1] at h
   obtain rfl:sumS cmpF (prodL d e) = p:=(Prod.ext_iff.1 h).1
   refine ⟨hb.1,hb.2,h2,?_,deg_prod hb.1 hb.2,_,scl_ok h2 (by omega)⟩
   rcases jA0 hb.2 hb.1 with ⟨h3,_⟩|h3
   ·rw [h3,prod_comm]
   ·have e1:=h1
    unfold timOf at e1 h3
    rw [if_pos (by rw [hb.1,hb.2];rfl)] at e1
    rw [if_pos (by rw [hb.1,hb.2];rfl),prod_comm,e1] at h3
    exact absurd (show (0:Int) = 3 from congrArg Prod.snd h3) (by decide)
  ·rw [h1] at h;cases h
 ·rw [tim_bad hb] at h;cases h
def dotE:Elt:=[(1,[[0]])]
structure EmB (f g s:Elt):Prop where
 bf:elB f = true
 bg:elB g = true
 bs:elB s = true
 minus:∃ m,sclOf g 10006 = (m,0)∧addOf s m = (f,0)
 dist:∃ a x b y h z u v,timOf s dotE = (a,x)∧timOf f dotE = (b,y)∧timOf g dotE = (h,z)∧addOf b h = (u,v)∧(x = 0 ∨ x = 3)∧(y = 0 ∨ y = 3)∧(z = 0 ∨ z = 3)∧(v = 0 ∨ v = 3)∧(x = 0→y = 0→z = 0→v = 0→a = u)
end
section
def kE (t:List Int):Nat→Nat
 | 0 => 0
 | p + 1 => if t.getD p 0 ≤ 1 then kE t p else p + 1
def lastEq (t:List Int) (l:Int):Nat→Nat
 | 0 => 0
 | q + 1 => if t.getD q 0 = l then q else lastEq t l q
def yW (p q:Nat):Nat→List Int→List Int
 | 0,t => t
 | k + 1,t => (yW p q k t).set (p + k) ((yW p q k t).getD (p + k - (p - q)) 0)
def nextT (t:List Int):Option (List Int) :=
 match kE t t.length with
 | 0 => none
 | p + 1 => some (yW p (lastEq t (t.getD p 0 - 1) p) (t.length - p) t)
def treesF:Nat→List Int→List (List Int)
 | 0,_ => []
 | f + 1,t => t :: match nextT t with
  | none => []
  | some s => treesF f s
def yR (n:Nat):List (List Int):=treesF 120 ((List.range n).map fun (i:Nat) => (i:Int))
theorem trees_len:[1,2,3,4,5,6,7,8].map (fun n => (yR n).length) = [1,1,2,4,9,20,48,115]:=by decide +kernel
end
section
theorem a_slicesClone (xs:List Int) (h:xs.length ≤ 1000000000):AFn Tryz.prog 201 [eL xs] (· = [.own 1 (xs.map eI) true]):=afn_L_o (enters_of Tryz.func201 rfl rfl) (fun u w h' => kU0 u xs w h' h)
def stepOk (n:Nat) (t:List Int):Bool :=
 t.length == n && t.all (fun x => decide (0 ≤ x) && decide (x ≤ 8)) && (match kE t n with
  | 0 => true
  | p + 1 => decide (p < n) && (let q:=lastEq t (t.getD p 0 - 1) p;decide (q < p) && t.getD q 0 == t.getD p 0 - 1))
theorem step_all:∀ n ∈ [1,2,3,4,5,6,7,8],(yR n).all (stepOk n) = true:=by decide +kernel
theorem copyFrom_len (p q:Nat) (t:List Int):∀ k,(yW p q k t).length = t.length
 | 0 => rfl
 | k + 1 => by unfold yW;rw [List.length_set,copyFrom_len p q t k]
theorem a_treesOf (n:Nat) (hn:n ∈ [1,2,3,4,5,6,7,8]):AFn Tryz.prog 176 [eI n] (· = [.own 1 ((yR n).map eL) true]):=by
 have hn8:1 ≤ n∧n ≤ 8:=by simp at hn;omega
 have hlen:(yR n).length ≤ 115:=by
  have:=trees_len
  simp at hn
  rcases hn with rfl|rfl|rfl|rfl|rfl|rfl|rfl|rfl <;> simp at this <;> omega
 have hok:=List.all_eq_true.1 (step_all n hn)
 refine AFn.of_runs (qQ 72) Tryz.func176 rfl rfl rfl gz ?_
 have hres:Tryz.f176.results.toList = [.tmp 2]:=rfl
 have hrts:Tryz.f176.resultTypes.toList = [36]:=rfl
 simp only [qV,qT,eL,eI,eLL,eB,Nat.zero_add,Nat.reduceAdd]
 intro M
 refine qJ.of ?_
 refine gw125 Y0 ?_
 refine qJ.loop (β:=Nat) (γ:=Unit) (fun i => ⟨[(0,.c (.val (.int n))),(3,.c (.own 3 i)),(4,.c (.own 4 0)),(11,.c (.val (.int n))),(12,.c (.val (.int i)))],[(3,.row 1 ((List.range i).map fun (j:Nat) => [.int j]) true),(4,.row 1 [] true)]⟩) (fun i => i ≤ n) (fun i => n - i)
  (fun _ => ⟨[(0,.c (.val (.int n))),(3,.c (.own 3 n)),(4,.c (.own 4 0))],[(3,.row 1 ((List.range n).map fun (j:Nat) => [.int j]) true),(4,.row 1 [] true)]⟩) (fun _ => True) 0 (Nat.zero_le _) ?_ ?_ ?_
 ·exact gw126
 ·intro i hi
  have hw:=qB (n:=i) (by omega)
  have q1:=jJ (n:=i + 1) (by omega)
  have q2:=qP (n:=i + 1) (c:=8) (by omega) (by omega)
  by_cases h:i < n
  ·have i1:((i:Int) < (n:Int)) = True:=eq_true (by omega)
   refine gw127 (Y4 i1 hw q1 q2) ?_
   refine qY.on (i + 1) ⟨h,by omega⟩ ?_
   exact gw128
  ·have i1:((i:Int) < (n:Int)) = False:=eq_false (by omega)
   obtain rfl:i = n:=by omega
   refine gw125 i1 ?_
   refine qY.out () trivial ?_
   exact gw7 Y0
 ·rintro _ _
  refine gw125 Y0 ?_
  refine qJ.loop (β:=Nat × List (List Int) × List Int) (γ:=Unit) (fun x => ⟨[(0,.c (.val (.int n))),(3,.c (.own 3 n)),(4,.c (.own 4 x.2.1.length))],[(3,.row 1 (x.2.2.map eI) true),(4,.row 1 (x.2.1.map eL) true)]⟩)
   (fun x => yR n = x.2.1 ++ treesF x.1 x.2.2∧x.2.1.length + x.1 = 120∧0 < x.1) (fun x => x.1)
   (fun _ => ⟨[],[]⟩) (fun _ => False) (120,[],(List.range n).map fun (i:Nat) => (i:Int)) ⟨rfl,rfl,by show 0 < 120;omega⟩ ?_ ?_ ?_
  ·exact gw129
  ·rintro ⟨f,done,t⟩ ⟨h1,h2,h3⟩
   have h1:yR n = done ++ treesF f t:=h1
   have h2:done.length + f = 120:=h2
   have h3:0 < f:=h3
   obtain ⟨f,rfl⟩:∃ f',f = f' + 1:=⟨f - 1,by omega⟩
   have hmem:t ∈ yR n:=by rw [h1];exact List.mem_append_right _ (by simp [treesF])
   have hso:=hok t hmem
   unfold stepOk at hso
   simp only [Bool.and_eq_true,beq_iff_eq] at hso
   obtain ⟨⟨htl,htb⟩,hstep⟩:=hso
   have hdl:done.length ≤ 115:=by have:=congrArg List.length h1;simp at this;omega
   have q1:=jJ (n:=done.length + 1) (by omega)
   have q2:=qP (n:=done.length + 1) (c:=24) (by omega) (by omega)
   have hcl:=a_slicesClone t (by omega)
   have htlI:((t.map eI).length) = n:=by simp [htl]
   have hwn:w64 ((n:Int) - 1) = (n:Int) - 1:=qE (by omega)
   refine gw130 (Y5 htlI htl q1 q2 hwn) ?_
   have hget:∀ {k:Nat} (hk:k < n),(t.map eI)[k]? = some [.int (t.getD k 0)]:=by
    intro k hk
    rw [qD (by omega)];simp [eI,List.getD_eq_getElem?_getD,List.getElem?_eq_getElem (show k < t.length by omega)]
   have hbd:∀ {k:Nat} (hk:k < n),0 ≤ t.getD k 0∧t.getD k 0 ≤ 8:=by
    intro k hk
    have:=List.all_eq_true.1 htb (t.getD k 0) (by rw [List.getD_eq_getElem?_getD,List.getElem?_eq_getElem (show k < t.length by omega)];exact List.getElem_mem _)
    simpa using this
   refine qJ.loop (β:=Nat) (γ:=Nat) (fun m => ⟨[(0,.c (.val (.int n))),(3,.c (.own 3 n)),(4,.c (.own 4 (done.length + 1))),(6,.c (.val (.int ((m:Int) - 1))))],[(3,.row 1 (t.map eI) true),(4,.row 1 (done.map eL ++ [[.sl 1 (t.map eI)]]) true)]⟩)
    (fun m => m ≤ n∧kE t n = kE t m) (fun m => m)
    (fun m => ⟨[(0,.c (.val (.int n))),(3,.c (.own 3 n)),(4,.c (.own 4 (done.length + 1))),(6,.c (.val (.int ((m:Int) - 1))))],[(3,.row 1 (t.map eI) true),(4,.row 1 (done.map eL ++ [[.sl 1 (t.map eI)]]) true)]⟩) (fun m => kE t n = m) n ⟨Nat.le_refl _,rfl⟩ ?_ ?_ ?_
   ·exact gw7 Y0
   ·rintro m ⟨hm,hlb⟩
    rcases m with _|k
    ·have i1:((((0:Nat):Int) - 1) ≥ 0) = False:=eq_false (by omega)
     refine gw125 i1 ?_
     refine qY.out 0 hlb ?_
     exact gw7 Y0
    ·have hA:(((k + 1:Nat):Int) - 1) = (k:Int):=by omega
     have i1:((k:Int) ≥ 0) = True:=eq_true (by omega)
     have i2:((0:Int) ≤ (k:Int)) = True:=eq_true (by omega)
     have i5:((k:Int) < (n:Int)) = True:=eq_true (by have:k + 1 ≤ n:=hm;omega)
     have hk:=hget (k:=k) (by have:k + 1 ≤ n:=hm;omega)
     have hw:w64 ((k:Int) - 1) = (k:Int) - 1:=qE (by omega)
     by_cases hle:t.getD k 0 ≤ 1
     ·have i3:(t.getD k 0 ≤ 1) = True:=eq_true hle
      refine gw131 (Y8 hA i1 i2 i5 hk i3 hw htlI) ?_
      refine qY.on k ⟨⟨by omega,?_⟩,by omega⟩ ?_
      ·rw [hlb]
       show (if t.getD k 0 ≤ 1 then kE t k else k + 1) = kE t k
       rw [if_pos hle]
      ·exact gw7 Y0
     ·have i3:(t.getD k 0 ≤ 1) = False:=eq_false hle
      refine gw131 (Y8 hA i1 i2 i5 hk i3 hw htlI) ?_
      refine qY.out (k + 1) ?_ ?_
      ·rw [hlb]
       show (if t.getD k 0 ≤ 1 then kE t k else k + 1) = k + 1
       rw [if_neg hle]
      ·exact gw7 hA
   ·intro m hm
    have hm:kE t n = m:=hm
    rw [hm] at hstep
    rcases m with _|p
    ·have i1:((((0:Nat):Int) - 1) < 0) = True:=eq_true (by omega)
     refine gw125 i1 ?_
     have hnx:nextT t = none:=by unfold nextT;rw [htl,hm]
     have htr:yR n = done ++ [t]:=by rw [h1];unfold treesF;rw [hnx]
     refine qY.ret ?_
     refine gw125 Y0 ?_
     rw [htr]
     exact gw132
    ·have hA:(((p + 1:Nat):Int) - 1) = (p:Int):=by omega
     have i1:((p:Int) < 0) = False:=eq_false (by omega)
     obtain ⟨hpn,hq,hqv⟩:p < n∧lastEq t (t.getD p 0 - 1) p < p∧t.getD (lastEq t (t.getD p 0 - 1) p) 0 = t.getD p 0 - 1:=by simpa [and_assoc] using hstep
     generalize hqd:lastEq t (t.getD p 0 - 1) p = q at hq hqv
     have hwp:w64 ((p:Int) - 1) = (p:Int) - 1:=qE (by omega)
     refine gw125 (Y3 hA i1 hwp) ?_
     have i2:((0:Int) ≤ (p:Int)) = True:=eq_true (by omega)
     have hp:=hget hpn
     have i5:((p:Int) < (n:Int)) = True:=eq_true (by omega)
     have hpb:=hbd hpn
     have hwl:w64 (t.getD p 0 - 1) = t.getD p 0 - 1:=qE (by omega)
     refine qJ.loop (β:=Nat) (γ:=Unit) (fun j => ⟨[(0,.c (.val (.int n))),(3,.c (.own 3 n)),(4,.c (.own 4 (done.length + 1))),(6,.c (.val (.int p))),(7,.c (.val (.int ((j:Int) - 1))))],[(3,.row 1 (t.map eI) true),(4,.row 1 (done.map eL ++ [[.sl 1 (t.map eI)]]) true)]⟩)
      (fun j => j ≤ p∧lastEq t (t.getD p 0 - 1) j = q∧q < j) (fun j => j)
      (fun _ => ⟨[(0,.c (.val (.int n))),(3,.c (.own 3 n)),(4,.c (.own 4 (done.length + 1))),(6,.c (.val (.int p))),(7,.c (.val (.int q)))],[(3,.row 1 (t.map eI) true),(4,.row 1 (done.map eL ++ [[.sl 1 (t.map eI)]]) true)]⟩) (fun _ => True) p ⟨Nat.le_refl _,hqd,hq⟩ ?_ ?_ ?_
     ·exact gw7 Y0
     ·rintro j ⟨hj,hje,hqj⟩
      rcases j with _|k
      ·exact absurd hqj (Nat.not_lt_zero _)
      ·have hA:(((k + 1:Nat):Int) - 1) = (k:Int):=by omega
       have hje:(if t.getD k 0 = t.getD p 0 - 1 then k else lastEq t (t.getD p 0 - 1) k) = q:=hje
       have hj:k + 1 ≤ p:=hj
       have hqj:q < k + 1:=hqj
       have i3:((0:Int) ≤ (k:Int)) = True:=eq_true (by omega)
       have hk:=hget (k:=k) (by omega)
       have i6:((k:Int) < (n:Int)) = True:=eq_true (by omega)
       have hw:w64 ((k:Int) - 1) = (k:Int) - 1:=qE (by omega)
       by_cases heq:t.getD k 0 = t.getD p 0 - 1
       ·rw [if_pos heq] at hje
        have i4:(t.getD k 0 == t.getD p 0 - 1) = true:=beq_iff_eq.2 heq
        refine gw133 (Y12 hA i2 i3 i5 i6 hk hp hwl hw htlI heq i4) ?_
        refine qY.out () trivial ?_
        exact gw7 hje
       ·rw [if_neg heq] at hje
        have i4:(t.getD k 0 != t.getD p 0 - 1) = true:=bne_iff_ne.2 heq
        refine gw133 (Y11 hA i2 i3 i5 i6 hk hp hwl hw htlI i4) ?_
        refine qY.on k ⟨⟨by omega,hje,?_⟩,by omega⟩ ?_
        ·rcases Nat.lt_or_ge q k with h|h
         ·exact h
         ·obtain rfl:q = k:=by omega
          exact absurd hqv heq
        ·exact gw7 Y0
     ·rintro _ _
      refine gw125 Y0 ?_
      refine qJ.loop (β:=Nat) (γ:=Unit) (fun k => ⟨[(0,.c (.val (.int n))),(3,.c (.own 3 n)),(4,.c (.own 4 (done.length + 1))),(6,.c (.val (.int p))),(7,.c (.val (.int q))),(8,.c (.val (.int (p + k:Nat))))],[(3,.row 1 ((yW p q k t).map eI) true),(4,.row 1 (done.map eL ++ [[.sl 1 (t.map eI)]]) true)]⟩)
       (fun k => p + k ≤ n) (fun k => n - k)
       (fun _ => ⟨[(0,.c (.val (.int n))),(3,.c (.own 3 n)),(4,.c (.own 4 (done.length + 1)))],[(3,.row 1 ((yW p q (n - p) t).map eI) true),(4,.row 1 (done.map eL ++ [[.sl 1 (t.map eI)]]) true)]⟩) (fun _ => True) 0 (Nat.le_of_lt hpn) ?_ ?_ ?_
      ·exact gw134
      ·intro k hk
       have hk:p + k ≤ n:=hk
       have hcl':=copyFrom_len p q t k
       have hlI:((yW p q k t).map eI).length = n:=by simp [hcl',htl]
       by_cases h:p + k < n
       ·have j1:(((p + k:Nat):Int) < (n:Int)) = True:=eq_true (by omega)
        have j2:w64 ((p:Int) - (q:Int)) = ((p - q:Nat):Int):=by rw [qE (by omega)];omega
        have j3:w64 (((p + k:Nat):Int) - ((p - q:Nat):Int)) = ((p + k - (p - q):Nat):Int):=by rw [qE (by omega)];omega
        have j4:((yW p q k t).map eI)[p + k - (p - q)]? = some [.int ((yW p q k t).getD (p + k - (p - q)) 0)]:=by
         rw [qD (by omega)];simp [eI,List.getD_eq_getElem?_getD,List.getElem?_eq_getElem (show p + k - (p - q) < (yW p q k t).length by omega)]
        have j5:((0:Int) ≤ ((p + k - (p - q):Nat):Int)) = True:=eq_true (by omega)
        have j6:((0:Int) ≤ ((p + k:Nat):Int)) = True:=eq_true (by omega)
        have j7:(((p + k - (p - q):Nat):Int) < (n:Int)) = True:=eq_true (by omega)
        have j9:((yW p q k t).map eI)[p + k]? = some [.int ((yW p q k t).getD (p + k) 0)]:=by
         rw [qD (by omega)];simp [eI,List.getD_eq_getElem?_getD,List.getElem?_eq_getElem (show p + k < (yW p q k t).length by omega)]
        have j8:w64 (((p + k:Nat):Int) + 1) = ((p + k + 1:Nat):Int):=qB (n:=p + k) (by omega)
        refine gw131 (Y10 j1 j2 j3 j4 j5 j6 j7 j8 j9 hlI) ?_
        refine qY.on (k + 1) ⟨by show p + (k + 1) ≤ n;omega,by omega⟩ ?_
        exact gw135
       ·have j1:(((p + k:Nat):Int) < (n:Int)) = False:=eq_false (by omega)
        obtain rfl:k = n - p:=by omega
        refine gw125 j1 ?_
        refine qY.out () trivial ?_
        exact gw7 Y0
      ·rintro _ _
       refine gw125 Y0 ?_
       have hnx:nextT t = some (yW p q (n - p) t):=by unfold nextT;rw [htl,hm];simp only [hqd]
       have htr:yR n = (done ++ [t]) ++ treesF f (yW p q (n - p) t):=by
        rw [h1,List.append_assoc]
        conv => lhs;unfold treesF
        rw [hnx];rfl
       refine qY.on (f,done ++ [t],yW p q (n - p) t) ⟨⟨htr,?_,?_⟩,Nat.lt_succ_self f⟩ ?_
       ·show (done ++ [t]).length + f = 120
        simp;omega
       ·show 0 < f
        omega
       ·exact gw136
  ·rintro _ h
   exact h.elim
end
section
def allTo (n:Nat):List (List Int):=(List.range n).flatMap fun k => yR (k + 1)
theorem allTo_succ (n:Nat):allTo (n + 1) = allTo n ++ yR (n + 1):=by unfold allTo;rw [List.range_succ,List.flatMap_append];simp
theorem jH0:(allTo 8).length = 200:=by decide +kernel
theorem allTo_pre:∀ (d k:Nat),∃ r,allTo (d + k) = allTo d ++ r
 | d,0 => ⟨[],by simp⟩
 | d,k + 1 => by
  obtain ⟨r,e⟩:=allTo_pre d k
  exact ⟨r ++ yR (d + k + 1),by rw [← Nat.add_assoc,allTo_succ,e,List.append_assoc]⟩
theorem allTo_rise:(List.range 199).all (fun i => decide (cmpT ((allTo 8).getD i []) ((allTo 8).getD (i + 1) []) < 0)) = true:=by decide +kernel
theorem trees_all:lists8.all (fun t => !decide (canon t = t) || (yR t.length).contains t) = true:=by decide +kernel
theorem canT_mem {t:List Int} (h:canT t = true) {d:Nat} (hd:t.length ≤ d):t ∈ allTo d:=by
 unfold canT at h
 rw [Bool.and_eq_true] at h
 have h1:=lev8_all trees_all h.1
 rw [h.2] at h1
 have h2:t ∈ yR t.length:=by simpa using h1
 have hp:0 < t.length:=(wE h.1).pos
 unfold allTo
 rw [List.mem_flatMap]
 exact ⟨t.length - 1,List.mem_range.2 (by omega),by rw [Nat.sub_add_cancel hp];exact h2⟩
def posT (t:List Int):Nat:=(allTo 8).idxOf t
theorem allTo_pair:(allTo 8).Pairwise fun a b => cmpT a b < 0:=by
 refine yT0 (r:=fun a b => cmpT a b < 0) (fun a b d h1 h2 => yV.lt_tr h1 h2) (fun i hi => ?_)
 rw [jH0] at hi
 have:=wY.1 allTo_rise i (by omega)
 rw [yJ (by rw [jH0];omega),yJ (by rw [jH0];omega)] at this
 exact of_decide_eq_true this
theorem pos_at {t:List Int} (h:canT t = true) {d:Nat} (hd:t.length ≤ d) (hd8:d ≤ 8):∃ hi:posT t < (allTo d).length,(allTo d)[posT t] = t∧(∀ k (hk:k < (allTo d).length),k < posT t→cmpT (allTo d)[k] t < 0)∧∀ k (hk:k < (allTo d).length),posT t ≤ k→0 ≤ cmpT (allTo d)[k] t:=by
 obtain ⟨r,e⟩:=allTo_pre d (8 - d)
 rw [Nat.add_sub_cancel' hd8] at e
 have hm:=canT_mem h hd
 have hp:posT t = (allTo d).idxOf t:=by
  unfold posT
  rw [e,List.idxOf_append,if_pos hm]
 have hi:posT t < (allTo d).length:=by rw [hp];exact List.idxOf_lt_length_of_mem hm
 have ht:(allTo d)[posT t] = t:=by
  have:(allTo d)[(allTo d).idxOf t]'(by rw [← hp];exact hi) = t:=List.getElem_idxOf _
  simp [hp]
 have hpw:(allTo d).Pairwise fun a b => cmpT a b < 0:=by
  have:=allTo_pair
  rw [e] at this
  exact (List.pairwise_append.1 this).1
 rw [List.pairwise_iff_getElem] at hpw
 refine ⟨hi,ht,fun k hk hlt => ?_,fun k hk hle => ?_⟩
 ·have:=hpw k (posT t) hk hi hlt
  rwa [ht] at this
 ·by_cases hq:k = posT t
  ·subst hq
   rw [ht,yV.refl]
   exact Int.le_refl _
  ·have:=hpw (posT t) k hi hk (by omega)
   rw [ht] at this
   have:=(yV.anti t (allTo d)[k]).1 this
   omega
theorem mP_bd (n:Int):0 ≤ mP n∧mP n < 10007:=by unfold mP;omega
end
section
def plc (t:List Int):Int:=(posT t:Int) + 1
abbrev MC:=Int × List Int × Int
def mcut (c:Cu):MC:=(c.2,c.1.1.map plc,if c.1.2 = [] then 0 else plc c.1.2)
def eM (m:MC):List D:=[.int m.1,.sl 1 (m.2.1.map eI),.int m.2.2]
def cutsM (t:List Int):List MC:=(cutsL t).map mcut
def eMs (L:List MC):List D:=[.sl 3 (L.map eM)]
def T6:List (List Int):=allTo 6
def frmD:List D:=[.sl 1 (T6.map eL),.sl 1 ((T6.map cutsM).map eMs)]
theorem T6_len:T6.length = 37:=by decide +kernel
theorem T6_ok:∀ t ∈ T6,canT t = true∧t.length ≤ 6:=by
 have h:T6.all (fun t => canT t && decide (t.length ≤ 6)) = true:=by decide +kernel
 intro t ht
 have:=List.all_eq_true.1 h t ht
 simpa using this
theorem canT_lev {t:List Int} (h:canT t = true):qU t∧canon t = t:=by
 unfold canT at h
 rw [Bool.and_eq_true] at h
 exact ⟨wE h.1,of_decide_eq_true h.2⟩
theorem canT_mk {t:List Int} (h:qU t) (hc:canon t = t) (h8:t.length ≤ 8):canT t = true:=by
 unfold canT
 rw [lev8_mk h h8,decide_eq_true hc];rfl
theorem plc_at {t:List Int} (h:canT t = true) (hl:t.length ≤ 6):∃ hi:posT t < T6.length,T6[posT t] = t∧(∀ k (hk:k < T6.length),k < posT t→cmpT T6[k] t < 0)∧∀ k (hk:k < T6.length),posT t ≤ k→0 ≤ cmpT T6[k] t:=pos_at h hl (by decide)
theorem plc_lt {t:List Int} (h:canT t = true) (hl:t.length ≤ 6):1 ≤ plc t∧plc t < 38:=by
 obtain ⟨hi,_⟩:=plc_at h hl
 rw [T6_len] at hi
 unfold plc;omega
theorem cuts6 {t:List Int} (ht:t ∈ T6):(cutsL t).length ≤ 256∧∀ x ∈ cutsL t,(1 ≤ x.2∧x.2 ≤ 256)∧(∀ c ∈ x.1.1,canT c = true∧c.length ≤ 6)∧x.1.1.length ≤ 8∧(x.1.2 = [] ∨ (canT x.1.2 = true∧x.1.2.length ≤ 6)):=by
 obtain ⟨h0,hl⟩:=T6_ok t ht
 obtain ⟨h,hc⟩:=canT_lev h0
 have h0:=(yC (split t)).len
 rw [List.length_map] at h0
 have h1:=wP _ (Nat.le_refl _) h
 have h2:2 ^ t.length ≤ 2 ^ 8:=Nat.pow_le_pow_right (by decide) (by omega)
 refine ⟨by unfold cutsL;rw [List.length_map];omega,fun x hx => ?_⟩
 obtain ⟨z,hz,rfl⟩:=List.mem_map.1 hx
 obtain ⟨g1,g2,g3⟩:=wN (vP _ (Nat.le_refl _) h) z hz
 have hsum:=g3.2
 have one:∀ c ∈ z.1.1 ++ z.1.2,canT c = true∧c.length ≤ 6:=fun c hcm => by
  obtain ⟨k1,k2⟩:=g3.1 c hcm
  have hcl:c.length ≤ t.length:=by
   rcases List.mem_append.1 hcm with hm|hm
   ·have:=jL hm;omega
   ·have:=jL hm;omega
  exact ⟨canT_mk k1 k2 (by omega),by omega⟩
 refine ⟨⟨g1,by show z.2 ≤ 256;omega⟩,fun c hcm => one c (List.mem_append_left _ hcm),?_,?_⟩
 ·show z.1.1.length ≤ 8
  have:=wW (f:=z.1.1) (fun b hb => (g3.1 b (List.mem_append_left _ hb)).1)
  omega
 ·show z.1.2.headD [] = [] ∨ _
  match hz2:z.1.2 with
  | [] => exact .inl rfl
  | tr :: l =>
   have:=one tr (List.mem_append_right _ (by rw [hz2];simp))
   exact .inr (by show canT (z.1.2.headD []) = true∧(z.1.2.headD []).length ≤ 6;rw [hz2];exact this)
end
section
theorem c_BinarySearch (v1 v2:Value) (L:List (List Int)) (t:List Int) (i:Nat) (w:World) (h1:Rd (RS (RS RI)) w [v1] L) (h2:Rd (RS RI) w [v2] t) (hsz:L.length ≤ 1000000000) (hi:i < L.length)
  (hlo:∀ k (h:k < L.length),k < i→cmpT L[k] t < 0) (hhi:∀ k (h:k < L.length),i ≤ k→0 ≤ cmpT L[k] t) (heq:cmpT L[i] t = 0) :
  Calls Tryz.prog 179 #[v1,v2,.func (.func 119) #[] #[]] w (jB w (.tuple #[.int .i64 i,.bool true])):=by
 obtain ⟨oa,ca,L1⟩:=h1.lists
 obtain rfl:=L1.val
 have m1:=L1.le;have m2:=L1.capLe
 unfold maxLen at m2
 obtain ⟨ob,cb,rfl,m3,m4⟩:=h2.val
 have HL1:=Lib.hid L1
 have HLO:=Lib.hid hlo
 have HHI:=Lib.hid hhi
 have H2:=Lib.hid h2
 have HEQ:=Lib.hid heq
 clear L1 h1 hlo hhi h2 heq
 go_enter Tryz.func179,Tryz.ntmps179
 go_wp2_with fail
 go_loop [9,10] (fun s9 s10 => ∃ lo hi:Nat,lo ≤ i∧i ≤ hi∧hi ≤ L.length∧s9 = .int .i64 lo∧s10 = .int .i64 hi) (fun s9 s10 => (intOf s10).toNat - (intOf s9).toNat)
 case atStart => exact ⟨0,L.length,Nat.zero_le _,Nat.le_of_lt hi,Nat.le_refl _,rfl,rfl⟩
 case round =>
  obtain ⟨lo,hi',h1,h2,h3,rfl,rfl⟩:=hrel
  by_cases hlt:lo < hi'
  ·have hmn:(lo + hi') / 2 < L.length:=by omega
   obtain ⟨b1,o1,rfl,hb1,hc1⟩:=HL1.out.get hmn
   obtain ⟨oi,ci,g1,hrd1,q1,q2⟩:=hc1 _ hmn
   have hcall:=qB0 _ _ _ _ w hrd1 H2.out
   obtain ⟨z,hz⟩:∃ z,z = cmpT L[(lo + hi') / 2] t:=⟨_,rfl⟩
   obtain ⟨x1,hx1⟩:∃ x,x = L[(lo + hi') / 2].length:=⟨_,rfl⟩
   rw [← hz] at hcall
   rw [← hx1] at g1 q1 hcall
   have HC:=Lib.hid hcall
   have i1:(0:Int) ≤ ((lo:Int) + (hi':Int)) / 2:=by omega
   have i2:((lo:Int) + (hi':Int)) / 2 < (L.length:Int):=by omega
   by_cases hc:z < 0
   ·have hmi:(lo + hi') / 2 < i:=Nat.lt_of_not_le (fun h => by have:=HHI.out _ hmn h;omega)
    clear hc1 hrd1 hcall hx1 hz
    go_wp2_with (go_at_call 119;refine HC.out.mono ?_;rintro e w' ⟨rfl,rfl⟩)
    go_round
    case rel => exact ⟨(lo + hi') / 2 + 1,hi',by omega,by omega,by omega,by congr 1,rfl⟩
    case measure => simp [intOf];omega
   ·have hmi:i ≤ (lo + hi') / 2:=Nat.le_of_not_lt (fun h => by have:=HLO.out _ hmn h;omega)
    clear hc1 hrd1 hcall hx1 hz
    go_wp2_with (go_at_call 119;refine HC.out.mono ?_;rintro e w' ⟨rfl,rfl⟩)
    go_round
    case rel => exact ⟨lo,(lo + hi') / 2,by omega,by omega,by omega,rfl,by congr 1⟩
    case measure => simp [intOf];omega
  ·obtain rfl:lo = i:=by omega
   obtain ⟨b1,o1,rfl,hb1,hc1⟩:=HL1.out.get hi
   obtain ⟨oi,ci,g1,hrd1,q1,q2⟩:=hc1 _ hi
   have hcall:=qB0 _ _ _ _ w hrd1 H2.out
   rw [HEQ.out] at hcall
   obtain ⟨x1,hx1⟩:∃ x,x = L[lo].length:=⟨_,rfl⟩
   rw [← hx1] at g1 q1 hcall
   have HC:=Lib.hid hcall
   clear hc1 hrd1 hcall hx1
   go_wp2_with (go_at_call 119;refine HC.out.mono ?_;rintro e w' ⟨rfl,rfl⟩)
   go_ret2
   exact ⟨rfl,rfl⟩
end
section
theorem allTo_le {d:Nat} (h:d ≤ 8):(allTo d).length ≤ 200:=by
 obtain ⟨r,e⟩:=allTo_pre d (8 - d)
 rw [Nat.add_sub_cancel' h] at e
 have:=jH0
 rw [e,List.length_append] at this
 omega
theorem a_treesTo (n:Nat) (hn:n ≤ 8):AFn Tryz.prog 113 [eI n] (· = [.own 1 ((allTo n).map eL) false]):=by
 refine AFn.of_runs (qQ 16) Tryz.func113 rfl rfl rfl gz ?_
 have hres:Tryz.f113.results.toList = [.tmp 2]:=rfl
 have hrts:Tryz.f113.resultTypes.toList = [36]:=rfl
 simp only [qV,qT,eL,eI,eLL,eB,Nat.zero_add,Nat.reduceAdd]
 intro M
 refine qJ.of ?_
 refine gw137 Y0 ?_
 refine qJ.loop (β:=Nat) (γ:=Unit) (fun i => ⟨[(0,.c (.val (.int n))),(3,.c (.own 3 (allTo i).length)),(4,.c (.val (.int ((i + 1:Nat):Int))))],[(3,.row 1 ((allTo i).map eL) false)]⟩) (fun i => i ≤ n) (fun i => n - i)
  (fun _ => ⟨[(3,.c (.own 3 (allTo n).length))],[(3,.row 1 ((allTo n).map eL) false)]⟩) (fun _ => True) 0 (Nat.zero_le _) ?_ ?_ ?_
 ·exact gw138 (show allTo 0 = [] from rfl)
 ·intro i hi
  have hi:i ≤ n:=hi
  by_cases h:i < n
  ·have j1:(((i + 1:Nat):Int) ≤ (n:Int)) = True:=eq_true (by omega)
   have ht:=a_treesOf (i + 1) (by simp;omega)
   have hw:=qB (n:=i + 1) (by omega)
   have hlen:=allTo_le (show i + 1 ≤ 8 by omega)
   rw [allTo_succ,List.length_append] at hlen
   have q1:=jJ (n:=(allTo i).length + (yR (i + 1)).length) (by omega)
   have q2:=qP (n:=(allTo i).length + (yR (i + 1)).length) (c:=24) (by omega) (by omega)
   refine gw139 (Y4 j1 hw q1 q2) ?_
   refine qY.on (i + 1) ⟨h,by omega⟩ ?_
   rw [allTo_succ]
   exact gw7 Y0
  ·have j1:(((i + 1:Nat):Int) ≤ (n:Int)) = False:=eq_false (by omega)
   obtain rfl:i = n:=by omega
   refine gw137 j1 ?_
   refine qY.out () trivial ?_
   exact gw7 Y0
 ·rintro _ _
  refine gw137 Y0 ?_
  exact gw2
theorem c_indexIn (v1 v2:Value) (L:List (List Int)) (t:List Int) (i:Nat) (w:World) (h1:Rd (RS (RS RI)) w [v1] L) (h2:Rd (RS RI) w [v2] t) (hsz:L.length ≤ 1000000000) (hi:i < L.length)
  (hlo:∀ k (h:k < L.length),k < i→cmpT L[k] t < 0) (hhi:∀ k (h:k < L.length),i ≤ k→0 ≤ cmpT L[k] t) (heq:cmpT L[i] t = 0) :
  Calls Tryz.prog 115 #[v1,v2] w (jB w (.int .i64 i)):=by
 have hb:=Lib.hid (c_BinarySearch v1 v2 L t i w h1 h2 hsz hi hlo hhi heq)
 clear h1 h2 hlo hhi heq
 go_enter Tryz.func115,Tryz.ntmps115
 go_wp2_with (go_at_call 179;refine hb.out.mono ?_;rintro e w' ⟨rfl,rfl⟩)
 go_ret
 exact ⟨rfl,rfl⟩
theorem a_indexIn (L:List (List Int)) (t:List Int) (i:Nat) (hsz:L.length ≤ 1000000000) (hi:i < L.length) (heq:L[i] = t)
  (hlo:∀ k (h:k < L.length),k < i→cmpT L[k] t < 0) (hhi:∀ k (h:k < L.length),i ≤ k→0 ≤ cmpT L[k] t):AFn Tryz.prog 115 [eLL L,eL t] (· = [.val (.int i)]) :=
 AFn.of_s (v:=.int .i64 _) (enters_of Tryz.func115 rfl rfl) (fun _ _ => jY.2 ⟨rfl,by unfold qH;omega⟩) (fun w A vs ⟨v1,_,e1,h1,v2,_,e2,h2,e3⟩ => by
  subst e3;subst e2;subst e1
  exact c_indexIn v1 v2 L t i w (Rd.of (rdLL h1)) (Rd.of (rd1 h2)) hsz hi hlo hhi (by rw [heq];exact yV.refl t))
end
section
section
variable {P:Program} {cfg:Cfg} {M:Nat→Prop} {ops:Array Oper} {s:St}
theorem qZ.gives (o:Oper) {l:List Oper} {Q:St→Prop} {d:Nat} {av:AV} (hg:o.guard = none) (hd:o.dst = some d) (hdN:d < cfg.N)
  (hG:∀ {w0:W0} {Ok σ a w},Sim w0 Ok cfg.N σ s a w→xV P a w o (relAV σ s.heap w av)) (h:qZ P cfg M ops l Q ⟨insR d av s.regs,s.heap⟩):qZ P cfg M ops (o :: l) Q s:=by
 intro w0 Ok σ a w Q' hM hS hQ
 refine wpList_step (fun K hK => ?_)
 have hw:qM ops s.regs o = some true:=by unfold qM;rw [hg]
 rw [xB hS hw]
 simp only [if_true]
 obtain ⟨v,h1,h2⟩:=hG hS
 unfold Oper.wp
 rw [h1]
 show K (a.put o.dst _) _
 rw [hd]
 exact hK _ _ (h w0 Ok σ _ _ Q' hM (Sim.ins hS hdN h2) hQ)
end
end
end Go.Proofs.YtedgfkpfhonlpaaGreat
