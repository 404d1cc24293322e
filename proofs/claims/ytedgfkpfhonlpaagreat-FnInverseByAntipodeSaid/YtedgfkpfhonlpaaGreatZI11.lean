/- Lemmas (11). -/
import Derived.Lib.AppendZeros
import Derived.Test.YtedgfkpfhonlpaaGreatZI1
import Derived.Test.YtedgfkpfhonlpaaGreatZI7
import Derived.Test.YtedgfkpfhonlpaaGreatZI8
import Derived.Test.YtedgfkpfhonlpaaGreatZI9
import Derived.Test.YtedgfkpfhonlpaaGreatZI10
set_option maxHeartbeats 16000000
set_option maxRecDepth 100000
set_option linter.unusedSimpArgs false
set_option linter.unusedVariables false
namespace Go.Proofs.YtedgfkpfhonlpaaGreat
open Go.RowKit
section
theorem sub_flatN {α:Type} {l1 l2:List (List α)} (h:l1.Sublist l2):l1.flatten.Sublist l2.flatten:=by
 induction h with
 | slnil => exact .slnil
 | cons a _ ih => rw [List.flatten_cons];exact ih.trans (List.sublist_append_right _ _)
 | cons_cons a _ ih => rw [List.flatten_cons,List.flatten_cons];exact List.Sublist.append (List.Sublist.refl _) ih
def eS0 (s:Spl):List D:=[.sl 1 (s.1.map eL),.sl 1 (s.2.map eL),.int 0]
noncomputable def TGa2:Tab Tryz.prog :=
 (Tab.none.add 102 (tab1 codLL fun f => if SmF f then some [.own 1 ((forest f).map eL) true] else none) (xD fun f rs h => by split at h;cases h;rename_i hs;exact a_forestOf f hs.1 (by have:=hs.2;omega);cases h)).add
  120 (tab2 codSp codSp fun z y => if SmS z.1∧SmS y.1 then some [.val (.int (cmpS z.1 y.1))] else none) (xP fun z y rs h => by split at h;cases h;rename_i hs;exact a_gathered1 z y hs.1 hs.2;cases h)
structure Ga1 (M:Nat→Prop) (L:List Spl) (i:Nat) (qs:List SpT):Prop where
 le:i ≤ L.length
 eq:qs.map (·.1) = (L.take i).map fun s => (nrmS s,1)
 nd:((qs.map SpT.bl).flatten).Nodup
 mi:∀ b ∈ (qs.map SpT.bl).flatten,M b
theorem Ga1.len {M:Nat→Prop} {L:List Spl} {i:Nat} {qs:List SpT} (h:Ga1 M L i qs):qs.length = i:=by
 have:=congrArg List.length h.eq
 rw [List.length_map,List.length_map,List.length_take] at this
 have:=h.le
 omega
theorem marks_eSpT:∀ (qs:List SpT),kP (qs.map eSpT) = (qs.map SpT.bl).flatten
 | [] => rfl
 | q :: qs => by
  have ih:=marks_eSpT qs
  unfold kP at ih ⊢
  rw [List.map_cons,List.flatMap_cons,ih,List.map_cons,List.flatten_cons]
  congr 1
  simp [eSpT,D.marks,SpT.bl]
theorem rowMarks_left {xs ys:List (List D)} {b:Nat} (h:b ∈ kP xs):b ∈ kP (xs ++ ys):=by
 unfold kP at h ⊢
 rw [List.flatMap_append];exact List.mem_append_left _ h
theorem a_gathered (L:List Spl) (hl:L.length ≤ 100000) (hL:∀ s ∈ L,SmS s):AOw Tryz.prog 60 [] 3 (L.map eS0) [] (· = [.own 3 ((gathS L).map eSp) true]):=by
 refine AOw.of_runs (qJ 68) Tryz.func60 rfl rfl rfl gz ?_
 have hres:Tryz.f60.results.toList = [.tmp 2]:=rfl
 have hrts:Tryz.f60.resultTypes.toList = [33]:=rfl
 simp only [List.length_cons,List.length_nil,List.nil_append,List.cons_append,qU,qT,eL,eI,eLL,eB,Nat.zero_add,Nat.reduceAdd]
 intro M
 refine qQ.of ?_
 refine gw32 (kk 35) Y0 ?_
 refine qQ.loop (β:=Nat × List SpT) (γ:=List SpT) (fun x => ⟨[(0,.c (.own 0 L.length)),(10,.c (.own 0 L.length)),(11,.c (.val (.int L.length))),(12,.c (.val (.int x.1)))],[(0,.row 3 (x.2.map eSpT ++ (L.drop x.1).map eS0) false)]⟩) (fun x => Ga1 M L x.1 x.2) (fun x => L.length - x.1)
  (fun qs => ⟨[(0,.c (.own 0 L.length))],[(0,.row 3 (qs.map eSpT) false)]⟩) (fun qs => Ga1 M L L.length qs) (0,[]) ⟨Nat.zero_le _,rfl,List.nodup_nil,fun b hb => nomatch hb⟩ ?_ ?_ ?_
 ·exact gw54
 ·rintro ⟨i,qs⟩ hI
  have hil:=hI.le
  have hqn:=hI.len
  simp only at hil hqn ⊢
  have hw:=qH (n:=i) (by omega)
  have hrl:(qs.map eSpT ++ (L.drop i).map eS0).length = L.length:=by rw [List.length_append,List.length_map,List.length_map,List.length_drop];omega
  by_cases h:i < L.length
  ·have i1:((i:Int) < (L.length:Int)) = True:=eq_true (by omega)
   have i2:((0:Int) ≤ (i:Int)) = True:=eq_true (by omega)
   refine qQ.fresh rfl ?_
   intro M' hM' hold
   have hold:=hold 0 3 (qs.map eSpT ++ (L.drop i).map eS0) rfl
   obtain ⟨s,hs⟩:∃ s,s = L[i]:=⟨_,rfl⟩
   have hsm:=hL L[i] (List.getElem_mem _)
   have hdr:L.drop i = s :: L.drop (i + 1):=by rw [hs];exact List.drop_eq_getElem_cons h
   rw [← hs] at hsm
   have hg:(qs.map eSpT ++ (L.drop i).map eS0)[i]? = some [.sl 1 (s.1.map eL),.sl 1 (s.2.map eL),.int 0]:=by
    rw [List.getElem?_append_right (by rw [List.length_map];omega),List.length_map,hqn,Nat.sub_self,hdr];rfl
   have e1:=eq_true hsm.1
   have e2:=eq_true hsm.2
   refine gw36 (kk 35) (Y4 i1 i2 hg hrl) ?_
   ((with_reducible refine qQ.wFz (qJ 68) TGa2 qA [] (tr:=?_) (s1:=?_) (rest:=?_) ?_ ?_ ?_);rotate_left 3;(focus ((with_reducible refine QW ?_);simp only [Zg,Zd,Zi,seval,drunF,xT,xN,valD,kU,List.contains_cons,List.contains_nil,TGa2,TGa2,i1,i2,hg,hrl,e1,e2,Int.toNat_natCast];with_reducible rfl));focus ((with_reducible refine QK ?_);simp only [Zk];kernel_rfl))
   refine qY.markA2 (r:=25) (key1:=21) (key2:=24) (z:=[.val (.int 1)]) rfl rfl rfl (by decide) ?_
   intro F G hnd hFG
   refine qY.opsT (qJ 68) (T:=Tab.none) (s':=?_) ?_ ?_
   rotate_left 1
   focus (simp only [Zg,Zi,seval,hg,hrl];with_reducible rfl)
   refine gw27 (kk 35) hw ?_
   have hset:(qs.map eSpT ++ (L.drop i).map eS0).set i [.tag F (.sl 1 ((forest s.1).map eL)),.tag G (.sl 1 ((forest s.2).map eL)),.int 1] = (qs ++ [((nrmS s,1),(F,G))]).map eSpT ++ (L.drop (i + 1)).map eS0:=by
    rw [List.set_append_right _ _ (by rw [List.length_map];omega),List.length_map,hqn,Nat.sub_self,hdr,List.map_cons,List.set_cons_zero,List.map_append,List.append_assoc]
    rfl
   refine qZ.on (i + 1,qs ++ [((nrmS s,1),(F,G))]) ⟨⟨h,?_,?_,?_⟩,by show L.length - (i + 1) < L.length - i;omega⟩ ?_
   ·show List.map (fun q:SpT => q.1) (qs ++ [((nrmS s,1),(F,G))]) = (L.take (i + 1)).map fun s => (nrmS s,1)
    have:=hI.eq
    simp only at this
    rw [List.map_append,this,List.take_succ_eq_append_getElem h,List.map_append,← hs];rfl
   ·show (((qs ++ [((nrmS s,1),(F,G))]).map SpT.bl).flatten).Nodup
    rw [List.map_append,List.flatten_append]
    refine List.nodup_append.2 ⟨hI.nd,by simpa [SpT.bl] using hnd,fun b hb c hc e => ?_⟩
    subst e
    refine hold b (rowMarks_left ?_) (hFG b (by simpa [SpT.bl] using hc))
    rw [marks_eSpT];exact hb
   ·intro b hb
    have hb:b ∈ ((qs ++ [((nrmS s,1),(F,G))]).map SpT.bl).flatten:=hb
    rw [List.map_append,List.flatten_append] at hb
    rcases List.mem_append.1 hb with hb|hb
    ·exact hI.mi b hb
    ·exact hM' b (hFG b (by simpa [SpT.bl] using hb))
   ·rw [← hset]
    exact gw6 Y0
  ·have i1:((i:Int) < (L.length:Int)) = False:=eq_false (by omega)
   obtain rfl:i = L.length:=by omega
   have hd0:L.drop L.length = []:=List.drop_length
   refine gw27 (kk 35) i1 ?_
   refine qZ.out qs hI ?_
   rw [hd0,List.map_nil,List.append_nil]
   exact gw6 Y0
 ·intro qs hJ
  have hqn:=hJ.len
  have hq1:∀ q ∈ qs,q.1.2 = 1∧SmS q.1.1:=fun q hq => by
   have hm:q.1 ∈ qs.map (·.1):=List.mem_map.2 ⟨q,hq,rfl⟩
   rw [hJ.eq,List.take_length,List.mem_map] at hm
   obtain ⟨s,hs,e⟩:=hm
   rw [← e]
   have:=hL s hs
   refine ⟨rfl,⟨?_,?_⟩,?_,?_⟩
   ·show (sortC cmpT s.1).length ≤ 19
    rw [vT];exact this.1.1
   ·show qX (sortC cmpT s.1) ≤ 100
    rw [vQ (jR _)];exact this.1.2
   ·show (sortC cmpT s.2).length ≤ 19
    rw [vT];exact this.2.1
   ·show qX (sortC cmpT s.2) ≤ 100
    rw [vQ (jR _)];exact this.2.2
  have hso:=a_sortSp qs (fun q hq => (hq1 q hq).2) (by omega)
  refine gw27 (kk 35) Y0 ?_
  refine qQ.regCut (qJ 68) Tab.none 2 (s1:=?_) ?_ ?_
  rotate_left 1
  focus (refine Work.mk ?_;simp only [Zg,Zi,seval];with_reducible rfl)
  simp only [List.toList_toArray,List.drop_succ_cons,List.drop_zero]
  refine qY.callEf (qJ 68) rfl rfl (by decide) rfl rfl (x:=.tmp 28) (xpost:=[.tmp 29]) rfl rfl (post:=[[.raw (.func (.func 120) #[] #[])]]) ?_ ?_ rfl rfl ?_ hso (R:=fun ys => ∃ zs:List SpT,ys = zs.map eSpT∧zs.Perm qs∧zs.Pairwise (fun a b => cmpS a.1.1 b.1.1 ≤ 0)) ?_ ?_
  ·simp only [Zg,Zi,seval]
  ·rfl
  ·intro q u hq hu
   rw [look,if_neg (fun e => hq e.symm)] at hu
   cases hu
  ·rintro rs oc ⟨rfl,zs,rfl,h1,h2⟩
   exact ⟨rfl,_,rfl,zs,rfl,h1,h2⟩
  rintro _ ⟨zs,rfl,hperm,hsort⟩
  have hzl:zs.length = L.length:=by rw [hperm.length_eq];exact hqn
  have hzz:∀ z ∈ zs,z.1.2 = 1∧SmS z.1.1:=fun z hz => hq1 z (hperm.mem_iff.1 hz)
  refine qY.opsT (qJ 68) (T:=Tab.none) (s':=?_) ?_ ?_
  rotate_left 1
  focus (simp only [Zg,Zi,seval];with_reducible rfl)
  refine gw27 (kk 35) Y0 ?_
  obtain ⟨R,hR⟩:∃ R,R = fun i => runQ (zs.take i):=⟨_,rfl⟩
  have hRi:∀ i,i ≤ zs.length→(R i).length ≤ 100000∧∀ q ∈ R i,(1 ≤ q.1.2∧q.1.2 ≤ 100000)∧SmS q.1.1:=fun i hi => by
   rw [hR]
   obtain ⟨_,_,h3,h4⟩:=runQ_spec _ (zs.take i) rfl (fun q hq => (hzz q (List.mem_of_mem_take hq)).1)
   rw [List.length_take] at h3 h4
   refine ⟨by show (runQ (zs.take i)).length ≤ 100000;omega,fun q hq => ?_⟩
   obtain ⟨h5,p,hp,h6⟩:=h4 q hq
   exact ⟨by omega,h6 ▸ (hzz p (List.mem_of_mem_take hp)).2⟩
  refine qQ.loop (β:=Nat) (γ:=Unit) (fun i => ⟨[(5,.c (.val (.raw (.func (.func 120) #[] #[])))),(6,.c (.own 6 (R i).length)),(32,.c (.own 0 L.length)),(33,.c (.val (.int L.length))),(34,.c (.val (.int i)))],[(0,.row 3 (zs.map eSpT) false),(6,.row 3 ((R i).map eSpT) false)]⟩) (fun i => i ≤ L.length) (fun i => L.length - i)
   (fun _ => ⟨[(6,.c (.own 6 (R L.length).length))],[(6,.row 3 ((R L.length).map eSpT) false)]⟩) (fun _ => True) 0 (Nat.zero_le _) ?_ ?_ ?_
  ·have e0:R 0 = []:=by rw [hR];rfl
   rw [e0]
   exact gw55
  ·intro i hi
   have hi:i ≤ L.length:=hi
   have hw:=qH (n:=i) (by omega)
   obtain ⟨hb1,hb2⟩:=hRi i (by omega)
   have hzml:(zs.map eSpT).length = L.length:=by rw [List.length_map,hzl]
   by_cases h:i < L.length
   ·have hz':i < zs.length:=by omega
    have i1:((i:Int) < (L.length:Int)) = True:=eq_true (by omega)
    have i2:((0:Int) ≤ (i:Int)) = True:=eq_true (by omega)
    obtain ⟨p,hp⟩:∃ p,p = zs[i]:=⟨_,rfl⟩
    have hpz:=hzz zs[i] (List.getElem_mem _)
    have hst:R (i + 1) = stepQ (R i) p:=by
     rw [hR]
     show runQ (zs.take (i + 1)) = stepQ (runQ (zs.take i)) p
     rw [List.take_succ_eq_append_getElem hz',← hp,runQ_snoc]
    have hg:(zs.map eSpT)[i]? = some (eSpT p):=by rw [qD hz',hp]
    rw [← hp] at hpz
    obtain ⟨⟨⟨pf,pg⟩,pn⟩,⟨pF,pG⟩⟩:=p
    simp only [eSpT] at hg
    simp only at hpz
    have hpz2:=hpz.2
    have q1:=jV (n:=(R i).length + 1) (by omega)
    have q2:=jW (n:=(R i).length + 1) (c:=56) (by omega) (by omega)
    by_cases h0:R i = []
    ·rw [h0,stepQ_nil] at hst
     have j1:(((0:Nat):Int) > 0) = False:=eq_false (by omega)
     rw [h0] at q1 q2 ⊢
     simp only [List.length_nil] at q1 q2
     refine gw56 (kk 35) (Y8 i1 i2 hg hzml hw j1 q1 q2) ?_
     refine qZ.on (i + 1) ⟨h,by omega⟩ ?_
     rw [hst]
     exact gw57
    ·obtain ⟨qo,q,eq⟩:=snocN h0
     have hlq:(R i).length = qo.length + 1:=by rw [eq];simp
     obtain ⟨hz1,hz3⟩:=hb2 q (by rw [eq];simp)
     obtain ⟨⟨⟨qf,qg⟩,qn⟩,⟨qF,qG⟩⟩:=q
     simp only at hz1 hz3
     have j1:((((qo.length + 1:Nat)):Int) > 0) = True:=eq_true (by omega)
     have hw1:w64 (((qo.length + 1:Nat):Int) - 1) = ((qo.length:Nat):Int):=by rw [qN (by omega)];omega
     have i3:((0:Int) ≤ ((qo.length:Nat):Int)) = True:=eq_true (by omega)
     have i4:(((qo.length:Nat):Int) < ((qo.length + 1:Nat):Int)) = True:=eq_true (by omega)
     have hgz:((R i).map eSpT)[qo.length]? = some [.tag qF (.sl 1 (qf.map eL)),.tag qG (.sl 1 (qg.map eL)),.int qn]:=by
      rw [eq,List.map_append,List.getElem?_append_right (by simp)];simp [eSpT]
     have hxl:((R i).map eSpT).length = qo.length + 1:=by rw [List.length_map,hlq]
     have hk2:=eq_true (And.intro hz3 hpz2)
     rw [hlq] at hb1 q1 q2 ⊢
     by_cases he:cmpS (qf,qg) (pf,pg) = 0
     ·have hd:(cmpS (qf,qg) (pf,pg) == 0) = true:=beq_iff_eq.2 he
      have hwz:=qN (n:=qn + 1) (by omega)
      refine gw58 (kk 35) (Y12 i1 i2 i3 i4 hg hzml hgz hxl hw hw1 hd (Y3 hwz j1 hk2)) ?_
      have hR2:R (i + 1) = qo ++ [(((qf,qg),qn + 1),(qF,qG))]:=by rw [hst,eq];exact stepQ_eq qo _ _ he
      have hse:((R i).map eSpT).set qo.length [.tag qF (.sl 1 (qf.map eL)),.tag qG (.sl 1 (qg.map eL)),.int (qn + 1)] = (R (i + 1)).map eSpT:=by
       rw [hR2,eq,List.map_append,List.set_append_right _ _ (by simp)];simp [eSpT]
      refine qZ.on (i + 1) ⟨h,by omega⟩ ?_
      have hl2:(R (i + 1)).length = qo.length + 1:=by rw [hR2];simp
      rw [hl2,← hse]
      exact gw6 Y0
     ·have hd:(cmpS (qf,qg) (pf,pg) == 0) = false:=beq_eq_false_iff_ne.2 he
      refine gw58 (kk 35) (Y12 i1 i2 i3 i4 hg hzml hgz hxl hw hw1 hd (Y4 j1 hk2 q1 q2)) ?_
      have hR2:R (i + 1) = R i ++ [(((pf,pg),pn),(pF,pG))]:=by rw [hst,eq];exact stepQ_ne qo _ _ he
      refine qZ.on (i + 1) ⟨h,by omega⟩ ?_
      rw [hR2,List.length_append,hlq]
      exact gw59
   ·have i1:((i:Int) < (L.length:Int)) = False:=eq_false (by omega)
    obtain rfl:i = L.length:=by omega
    refine gw27 (kk 35) i1 ?_
    refine qZ.out () trivial ?_
    exact gw6 Y0
  ·rintro _ _
   have hRL:R L.length = runQ zs:=by rw [hR];show runQ (zs.take L.length) = _;rw [← hzl,List.take_length]
   obtain ⟨k1,k2,_,_⟩:=runQ_spec _ zs rfl (fun q hq => (hzz q hq).1)
   rw [hRL]
   refine gw27 (kk 35) Y0 ?_
   refine Ends.un (by simp) hres hrts (r:=?_) (r':=.own 3 ((gathS L).map eSp) true) (l:=[]) (ks:=?_) ?_ ?_ (by simp) ?_ rfl
   rotate_left 2
   focus (simp only [jG,ares,Zg,Zi,seval];with_reducible rfl)
   focus simp
   have hx:gathS L = (runQ zs).map (·.1):=by
    rw [k1]
    refine IsN.ext xK (yB L) (runsN_sorted xK (M:=L.map nrmS) ?_ ?_) (List.Perm.refl _)
    ·refine (hperm.map (·.1.1)).trans ?_
     have:=congrArg (List.map (·.1)) hJ.eq
     rw [List.map_map,List.map_map,List.take_length] at this
     rw [show (qs.map fun x => x.1.1) = qs.map ((fun x => x.1) ∘ fun x => x.1) from rfl,this]
     exact List.Perm.refl _
    ·exact List.pairwise_map.2 hsort
   rw [hx]
   have hp2:=(hperm.map SpT.bl).flatten
   refine ⟨((runQ zs).map SpT.bl).flatten,?_,fun b hb => hJ.mi b ?_,.inl ⟨3,_,_,rfl,rfl,tag_mkS _⟩⟩
   ·exact (hp2.nodup_iff.2 hJ.nd).sublist (sub_flatN k2)
   ·exact hp2.mem_iff.1 ((sub_flatN k2).subset hb)
end
section
theorem c_slicesGrowL (n:Nat) (w:World) (hn:n ≤ 1000000000):Calls Tryz.prog 183 #[.slice none 0 0,.int .i64 n] w (RetO (RS (RS RI)) w []):=by
 by_cases h0:n = 0
 ·subst h0
  go_enter Tryz.func183,Tryz.ntmps183
  go_wp2_with fail
  go_ret
  exact ⟨_,rfl,Own.nil _ _,Below.refl _ _⟩
 ·obtain ⟨ht,⟨i,hi,hz,hsz,hby⟩,_,_⟩:=tI64S
  have hr:=Lib.run_append_nil_zeros (P:=Tryz.prog) w 36 3 36 24 i (.slice none 0 0) .i64 .i64 ht Tryz.underlying3 hi hz n (by omega) (by omega) (by omega) (by rw [hby];omega)
  have hge:=grownCap_ge w n 0 24
  have hcm:grownCap w n 0 24 ≤ maxLen:=grownCap_le_maxLen w n 0 24 (by unfold maxLen;omega)
  obtain ⟨cp,hcp⟩:∃ cp,cp = grownCap w n 0 24:=⟨_,rfl⟩
  rw [← hcp] at hr hge hcm
  obtain ⟨cur,hcur⟩:∃ cur,cur = Builtin.zeroCells (Value.slice none 0 0).cells n ++ Builtin.zeroCells (Value.slice none 0 0).cells (cp - n):=⟨_,rfl⟩
  have hcs:cur.size = cp * 1:=by
   rw [hcur,Array.size_append,size_zeroCells,size_zeroCells]
   show n * 1 + (cp - n) * 1 = cp * 1
   omega
  rw [← hcur] at hr
  have hrow:Row (w.drew.alloc (.cells cur 24)) (.slice (some ⟨w.heap.size,0,none⟩) 0 cp) 1 0 [] (some w.heap.size) :=
   ⟨rfl,.inr ⟨w.heap.size,cp,cur,24,rfl,rfl,Go.heap_alloc_new w.drew _,Nat.zero_le _,hcm,hcs,by simp⟩⟩
  have hown:Own (RS (RS RI)) w.heap.size (w.drew.alloc (.cells cur 24)).heap.size (w.drew.alloc (.cells cur 24)) [.slice (some ⟨w.heap.size,0,none⟩) 0 cp] [] :=
   Own.mk' (og:=some w.heap.size) (F:=[]) (ds:=[]) hrow ⟨rfl,rfl⟩ (by simp) (fun b hb => by simp at hb;subst hb;simp)
  have hbel:Below w.heap.size w (w.drew.alloc (.cells cur 24)):=⟨rfl,rfl,rfl,by simp,fun k hk => Below.heap_alloc w.drew _ k hk⟩
  have HR:=Lib.hid hr
  have HO:=Lib.hid hown
  have hp:(0:Int) < (n:Int):=by omega
  have hp2:¬ ((n:Int) < 0):=by omega
  unfold maxLen at hcm
  clear hr hown hrow hcp hcur hi hz hsz hby ht hcs
  go_enter Tryz.func183,Tryz.ntmps183
  go_wp2_with (at_builtin;refine yO (o:=⟨some 22,_,_,_,_,_⟩) ?_)
  refine jB.go ?_
  refine Lib.wpList_append_run w rfl _ _ _ _ rfl _ _ rfl rfl _ _ HR.out ?_
  go_wp2_with fail
  go_ret
  exact ⟨_,rfl,HO.out,hbel⟩
theorem a_slicesGrowL (n:Nat) (hn:n ≤ 1000000000):AFn Tryz.prog 183 [[.raw (.slice none 0 0)],eI n] (· = [.own 1 [] true]) :=
 AFn.of_o (xs:=[]) (encS encI) (enters_of Tryz.func183 rfl rfl) (fun w A vs ⟨v1,_,e1,h1,v2,_,e2,h2,e3⟩ => by
  subst e3;subst e2;subst e1
  rw [arg_int h2,(jL.1 h1).1]
  exact c_slicesGrowL n w hn)
def eLLL' (x:List (List Int)):List D:=[.sl 1 (x.map eL)]
def cntL (bs:List (List (List Int))):Nat:=(bs.map List.length).sum
theorem xF0 (bs:List (List (List Int))) (k:Nat) (h:k < bs.length):cntL (bs.take (k + 1)) = cntL (bs.take k) + bs[k].length:=by
 unfold cntL
 rw [List.take_succ_eq_append_getElem h,List.map_append,List.sum_append];simp
theorem cntL_flat (bs:List (List (List Int))):bs.flatten.length = cntL bs:=by simp [cntL,List.length_flatten]
theorem cntL_take (bs:List (List (List Int))) (k:Nat):cntL (bs.take k) ≤ cntL bs:=by
 rw [← cntL_flat,← cntL_flat]
 conv => rhs;rw [← List.take_append_drop k bs]
 rw [List.flatten_append,List.length_append]
 omega
theorem xC0 (bs:List (List (List Int))) (hsz:cntL bs ≤ 1000000) (hl:bs.length ≤ 1000000):AFn Tryz.prog 123 [[.sl 1 (bs.map eLLL')]] (· = [.own 1 (bs.flatten.map eL) false]):=by
 refine AFn.of_runs (qJ 36) Tryz.func123 rfl rfl rfl gz ?_
 have hres:Tryz.f123.results.toList = [.tmp 2]:=rfl
 have hrts:Tryz.f123.resultTypes.toList = [36]:=rfl
 simp only [qU,qT,eL,eI,eLL,eB,Nat.zero_add,Nat.reduceAdd]
 intro M
 refine qQ.of ?_
 refine gw5 (kk 28) Y0 ?_
 refine qQ.loop (β:=Nat) (γ:=Unit) (fun i => ⟨[(0,.c (.val (.sl 1 (bs.map eLLL')))),(3,.c (.val (.int (cntL (bs.take i):Nat)))),(9,.c (.val (.sl 1 (bs.map eLLL')))),(10,.c (.val (.int bs.length))),(11,.c (.val (.int i)))],[]⟩) (fun i => i ≤ bs.length) (fun i => bs.length - i)
  (fun _ => ⟨[(0,.c (.val (.sl 1 (bs.map eLLL')))),(3,.c (.val (.int (cntL bs:Nat))))],[]⟩) (fun _ => True) 0 (Nat.zero_le _) ?_ ?_ ?_
 ·exact gw60 (show cntL [] = 0 from rfl)
 ·intro i hi
  have hi:i ≤ bs.length:=hi
  have hw:=qH (n:=i) (by omega)
  by_cases h:i < bs.length
  ·have i1:((i:Int) < (bs.length:Int)) = True:=eq_true (by omega)
   have i2:((0:Int) ≤ (i:Int)) = True:=eq_true (by omega)
   obtain ⟨f,hf⟩:∃ f,f = bs[i]:=⟨_,rfl⟩
   have hg:(bs.map eLLL')[i]? = some [.sl 1 (f.map eL)]:=by rw [qD h,hf];rfl
   have hst:=xF0 bs i h
   have hle:=cntL_take bs (i + 1)
   rw [← hf] at hst
   have hws:w64 ((cntL (bs.take i):Int) + (f.length:Int)) = ((cntL (bs.take (i + 1)):Nat):Int):=by rw [qN (by omega)];omega
   have j1:(((cntL (bs.take (i + 1)):Nat):Int) < 0) = False:=eq_false (by omega)
   refine gw61 (kk 28) (Y6 i1 i2 hg hw hws j1) ?_
   refine qZ.on (i + 1) ⟨h,by omega⟩ ?_
   exact gw6 Y0
  ·have i1:((i:Int) < (bs.length:Int)) = False:=eq_false (by omega)
   obtain rfl:i = bs.length:=by omega
   rw [List.take_length]
   refine gw7 (kk 28) i1 ?_
   refine qZ.out () trivial ?_
   exact gw6 Y0
 ·rintro _ _
  have hgr:=a_slicesGrowL (cntL bs) (by omega)
  refine gw5 (kk 28) Y0 ?_
  refine qQ.regCut (qJ 36) Tab.none 1 (s1:=?_) ?_ ?_
  rotate_left 1
  focus (refine Work.mk ?_;simp only [Zg,Zi,seval];with_reducible rfl)
  simp only [List.toList_toArray,List.drop_succ_cons,List.drop_zero]
  refine qY.callNilP (qJ 36) (d:=24) (g:=183) (xs:=[]) (tx:=[]) (pre:=[]) (ys:=[.tmp 23]) (ty:=[3]) (post:=[eI (cntL bs:Nat)]) rfl (by decide) rfl rfl rfl rfl rfl rfl rfl rfl hgr rfl ?_
  refine qY.opsT (qJ 36) (T:=Tab.none) (s':=?_) ?_ ?_
  rotate_left 1
  focus (simp only [Zg,Zi,seval];with_reducible rfl)
  refine gw5 (kk 28) Y0 ?_
  refine qQ.loop (β:=Nat) (γ:=Unit) (fun i => ⟨[(6,.c (.own 6 (bs.take i).flatten.length)),(25,.c (.val (.sl 1 (bs.map eLLL')))),(26,.c (.val (.int bs.length))),(27,.c (.val (.int i)))],[(6,.row 1 ((bs.take i).flatten.map eL) false)]⟩) (fun i => i ≤ bs.length) (fun i => bs.length - i)
   (fun _ => ⟨[(6,.c (.own 6 bs.flatten.length))],[(6,.row 1 (bs.flatten.map eL) false)]⟩) (fun _ => True) 0 (Nat.zero_le _) ?_ ?_ ?_
  ·exact gw62
  ·intro i hi
   have hi:i ≤ bs.length:=hi
   have hw:=qH (n:=i) (by omega)
   by_cases h:i < bs.length
   ·have i1:((i:Int) < (bs.length:Int)) = True:=eq_true (by omega)
    have i2:((0:Int) ≤ (i:Int)) = True:=eq_true (by omega)
    obtain ⟨f,hf⟩:∃ f,f = bs[i]:=⟨_,rfl⟩
    have hg:(bs.map eLLL')[i]? = some [.sl 1 (f.map eL)]:=by rw [qD h,hf];rfl
    have hst:=xF0 bs i h
    have hle:=cntL_take bs (i + 1)
    rw [← hf] at hst
    have hfl:(bs.take (i + 1)).flatten = (bs.take i).flatten ++ f:=by rw [List.take_succ_eq_append_getElem h,List.flatten_append,hf];simp
    have hcl:=cntL_flat (bs.take i)
    have q1:=jV (n:=(bs.take i).flatten.length + f.length) (by omega)
    have q2:=jW (n:=(bs.take i).flatten.length + f.length) (c:=24) (by omega) (by omega)
    refine gw61 (kk 28) (Y6 i1 i2 hg hw q1 q2) ?_
    refine qZ.on (i + 1) ⟨h,by omega⟩ ?_
    rw [hfl]
    exact gw6 Y0
   ·have i1:((i:Int) < (bs.length:Int)) = False:=eq_false (by omega)
    obtain rfl:i = bs.length:=by omega
    rw [List.take_length]
    refine gw7 (kk 28) i1 ?_
    refine qZ.out () trivial ?_
    exact gw6 Y0
  ·rintro _ _
   refine gw7 (kk 28) Y0 ?_
   exact gw8
end
section
def codLLL:Cod (List (List (List Int))):=codS 1 codLL
theorem codLLL_d (f g:List (List Int)):codLLL.d [.sl 1 [[.sl 1 (f.map eL)],[.sl 1 (g.map eL)]]] = some [f,g]:=codLLL.de [f,g]
def cat2:List (List (List Int))→Option (List Res)
 | [f,g] => if SmF f∧SmF g then some [.val (.sl 1 ((f ++ g).map eL))] else none
 | _ => none
theorem cat2_eq (f g:List (List Int)):cat2 [f,g] = if SmF f∧SmF g then some [.val (.sl 1 ((f ++ g).map eL))] else none:=rfl
noncomputable def TCat:Tab Tryz.prog :=
 Tab.none.add 123 (tab1 codLLL cat2) (xD fun bs rs h => by
  unfold cat2 at h
  split at h
  ·rename_i f g
   split at h
   ·rename_i hs
    cases h
    have hc:=AFn.val1 (xC0 [f,g] (by simp [cntL];have:=hs.1.1;have:=hs.2.1;omega) (by simp))
    simp only [List.flatten_cons,List.flatten_nil,List.append_nil] at hc
    exact hc
   ·cases h
  ·cases h)
theorem a_branchesOf (t:List Int) (h:qW t) (hl:t.length ≤ 1000):AFn Tryz.prog 103 [eL t] (· = [.own 1 ((brs t).map eL) true]) :=
 afn_L_oo (enters_of Tryz.func103 rfl rfl) (fun u w h' => jO0 u t w h' h (by omega))
theorem foldS_snoc (A:List Spl) (Ls:List (List Spl)) (L:List Spl):foldS A (Ls ++ [L]) = (foldS A Ls).flatMap fun s => L.map (catS s):=by unfold foldS;rw [List.foldl_append];rfl
theorem flatS_len (A L:List Spl):(A.flatMap fun s => L.map (catS s)).length = A.length * L.length:=by
 induction A with
 | nil => simp
 | cons a A ih => rw [List.flatMap_cons,List.length_append,ih,List.length_map,List.length_cons,Nat.succ_mul,Nat.add_comm]
theorem a_splitTree:∀ (n:Nat),n ≤ 8→∀ t:List Int,qW t→t.length ≤ n→AFn Tryz.prog 117 [eL t] (· = [.own 3 ((split t).map eS0) false])
 | 0,_,t,h,hn => by have:=h.pos;omega
 | n + 1,hn8,t,h,hn => by
  have hsb:=kW h
  have hlev:=jC h
  have hbr:=AFn.valT (a_branchesOf t h (by omega))
  have hbl:(brs t).length ≤ 8:=by have:=brs_few h;omega
  have hca:=AFn.valT (xA0 t h (by omega))
  simp only [eL,eLL] at hbr hca
  have hAg:∀ k,(∀ s ∈ prodS (((brs t).take k).map split),xY (qX ((brs t).take k)) s)∧(prodS (((brs t).take k).map split)).length ≤ 256∧qX ((brs t).take k) ≤ 7:=fun k => by
   have h1:=sumLen_take' (brs t) k
   exact ⟨qK0 (mem_take hlev),prod_len (mem_take hlev) (by omega),by omega⟩
  rw [vK h]
  refine AFn.of_runs (qJ 80) Tryz.func117 rfl rfl rfl gz ?_
  have hres:Tryz.f117.results.toList = [.tmp 2]:=rfl
  have hrts:Tryz.f117.resultTypes.toList = [33]:=rfl
  simp only [qU,qT,eL,eI,eLL,eB,Nat.zero_add,Nat.reduceAdd]
  intro M
  refine qQ.of ?_
  refine gw63 (kk 59) ?_
  refine qQ.loop (β:=Nat) (γ:=Unit) (fun k => ⟨[(0,.c (.val (.sl 1 (t.map eI)))),(3,.c (.own 3 (prodS (((brs t).take k).map split)).length)),(16,.c (.val (.sl 1 ((brs t).map eL)))),(17,.c (.val (.int (brs t).length))),(18,.c (.val (.int k)))],[(3,.row 3 ((prodS (((brs t).take k).map split)).map eS0) false)]⟩) (fun k => k ≤ (brs t).length) (fun k => (brs t).length - k)
   (fun _ => ⟨[(0,.c (.val (.sl 1 (t.map eI)))),(3,.c (.own 3 (prodS ((brs t).map split)).length))],[(3,.row 3 ((prodS ((brs t).map split)).map eS0) false)]⟩) (fun _ => True) 0 (Nat.zero_le _) ?_ ?_ ?_
  ·exact gw64 (show prodS [] = [([],[])] from rfl)
  ·intro k hk
   have hk:k ≤ (brs t).length:=hk
   have hwk:=qH (n:=k) (by omega)
   obtain ⟨g1,g2,g3⟩:=hAg k
   by_cases hkb:k < (brs t).length
   ·have i1:((k:Int) < ((brs t).length:Int)) = True:=eq_true (by omega)
    have i2:((0:Int) ≤ (k:Int)) = True:=eq_true (by omega)
    obtain ⟨b,hb⟩:∃ b,b = (brs t)[k]:=⟨_,rfl⟩
    have hbm:b ∈ brs t:=by rw [hb];exact List.getElem_mem _
    have hg:((brs t).map eL)[k]? = some [.sl 1 (b.map eI)]:=by rw [qD hkb,hb];rfl
    have hle:((brs t).map eL).length = (brs t).length:=List.length_map _
    have hblen:=yE h b hbm
    have hih:=AFn.val1 (a_splitTree n (by omega) b (hlev b hbm) (by omega))
    have hgB:=xO _ (Nat.le_refl _) (hlev b hbm)
    have hlB:(split b).length ≤ 256:=by
     have h1:=kM _ (Nat.le_refl _) (hlev b hbm)
     have h2:2 ^ b.length ≤ 2 ^ 8:=Nat.pow_le_pow_right (by decide) (by omega)
     omega
    have htk:prodS (((brs t).take (k + 1)).map split) = (prodS (((brs t).take k).map split)).flatMap fun s => (split b).map (catS s):=by
     rw [hb,List.take_succ_eq_append_getElem hkb,List.map_append];exact foldS_snoc _ _ _
    have hn2:(prodS (((brs t).take (k + 1)).map split)).length ≤ 256:=(hAg (k + 1)).2.1
    obtain ⟨A,hA⟩:∃ A,A = prodS (((brs t).take k).map split):=⟨_,rfl⟩
    obtain ⟨B,hB⟩:∃ B,B = split b:=⟨_,rfl⟩
    rw [← hA] at g1 g2 htk ⊢
    rw [← hB] at hih hgB hlB htk
    rw [htk] at hn2
    simp only [eL] at hih
    have hsA:∀ s ∈ A,SmS s:=fun s hs => ((g1 s hs).ha (by omega)).sm
    have hsB:∀ s ∈ B,SmS s:=fun s hs => ((hgB s hs).ha (by omega)).sm
    have hAl:(A.map eS0).length = A.length:=List.length_map _
    refine gw65 (kk 59) (Y4 i1 i2 hg hle) ?_
    refine qQ.loop (β:=Nat) (γ:=Unit) (fun i => ⟨[(0,.c (.val (.sl 1 (t.map eI)))),(3,.c (.own 3 A.length)),(5,.c (.val (.sl 1 (b.map eI)))),(6,.c (.own 6 ((A.take i).flatMap fun s => B.map (catS s)).length)),(16,.c (.val (.sl 1 ((brs t).map eL)))),(17,.c (.val (.int (brs t).length))),(18,.c (.val (.int k))),(23,.c (.own 3 A.length)),(24,.c (.val (.int A.length))),(25,.c (.val (.int i)))],
      [(3,.row 3 (A.map eS0) false),(6,.row 3 (((A.take i).flatMap fun s => B.map (catS s)).map eS0) false)]⟩) (fun i => i ≤ A.length) (fun i => A.length - i)
     (fun _ => ⟨[(0,.c (.val (.sl 1 (t.map eI)))),(6,.c (.own 6 (A.flatMap fun s => B.map (catS s)).length)),(16,.c (.val (.sl 1 ((brs t).map eL)))),(17,.c (.val (.int (brs t).length))),(18,.c (.val (.int k)))],[(6,.row 3 ((A.flatMap fun s => B.map (catS s)).map eS0) false)]⟩) (fun _ => True) 0 (Nat.zero_le _) ?_ ?_ ?_
    ·exact gw66
    ·intro i hi
     have hi:i ≤ A.length:=hi
     have hwi:=qH (n:=i) (by omega)
     by_cases hiA:i < A.length
     ·have j1:((i:Int) < (A.length:Int)) = True:=eq_true (by omega)
      have j2:((0:Int) ≤ (i:Int)) = True:=eq_true (by omega)
      obtain ⟨s,hs⟩:∃ s,s = A[i]:=⟨_,rfl⟩
      have hsm:=hsA A[i] (List.getElem_mem _)
      have hgs:(A.map eS0)[i]? = some [.sl 1 (s.1.map eL),.sl 1 (s.2.map eL),.int 0]:=by rw [qD hiA,hs];rfl
      have htkA:(A.take (i + 1)).flatMap (fun s => B.map (catS s)) = ((A.take i).flatMap fun s => B.map (catS s)) ++ B.map (catS s):=by
       rw [hs,List.take_succ_eq_append_getElem hiA,List.flatMap_append];simp
      have hXl:((A.take i).flatMap fun s => B.map (catS s)).length + B.length ≤ 256:=by
       rw [flatS_len] at hn2 ⊢
       rw [List.length_take,Nat.min_eq_left hi]
       have:(i + 1) * B.length ≤ A.length * B.length:=Nat.mul_le_mul_right _ hiA
       rw [Nat.succ_mul] at this;omega
      rw [← hs] at hsm
      obtain ⟨X,hX⟩:∃ X,X = (A.take i).flatMap fun s => B.map (catS s):=⟨_,rfl⟩
      rw [← hX] at htkA hXl ⊢
      have hBl:(B.map eS0).length = B.length:=List.length_map _
      refine gw67 (kk 59) (Y5 j1 j2 hgs hAl hBl) ?_
      refine qQ.loop (β:=Nat) (γ:=Unit) (fun j => ⟨[(0,.c (.val (.sl 1 (t.map eI)))),(3,.c (.own 3 A.length)),(5,.c (.val (.sl 1 (b.map eI)))),(6,.c (.own 6 (X ++ (B.take j).map (catS s)).length)),(8,.optr 8 0 0),(16,.c (.val (.sl 1 ((brs t).map eL)))),(17,.c (.val (.int (brs t).length))),(18,.c (.val (.int k))),(23,.c (.own 3 A.length)),(24,.c (.val (.int A.length))),(25,.c (.val (.int i))),(30,.c (.val (.sl 3 (B.map eS0)))),(31,.c (.val (.int B.length))),(32,.c (.val (.int j)))],
        [(3,.row 3 (A.map eS0) false),(6,.row 3 ((X ++ (B.take j).map (catS s)).map eS0) false),(8,.row 3 [[.sl 1 (s.1.map eL),.sl 1 (s.2.map eL),.int 0]] false)]⟩) (fun j => j ≤ B.length) (fun j => B.length - j)
       (fun _ => ⟨[(0,.c (.val (.sl 1 (t.map eI)))),(3,.c (.own 3 A.length)),(5,.c (.val (.sl 1 (b.map eI)))),(6,.c (.own 6 (X ++ B.map (catS s)).length)),(16,.c (.val (.sl 1 ((brs t).map eL)))),(17,.c (.val (.int (brs t).length))),(18,.c (.val (.int k))),(23,.c (.own 3 A.length)),(24,.c (.val (.int A.length))),(25,.c (.val (.int i)))],
        [(3,.row 3 (A.map eS0) false),(6,.row 3 ((X ++ B.map (catS s)).map eS0) false)]⟩) (fun _ => True) 0 (Nat.zero_le _) ?_ ?_ ?_
      ·exact gw37
      ·intro j hj
       have hj:j ≤ B.length:=hj
       have hwj:=qH (n:=j) (by omega)
       by_cases hjB:j < B.length
       ·have l1:((j:Int) < (B.length:Int)) = True:=eq_true (by omega)
        have l2:((0:Int) ≤ (j:Int)) = True:=eq_true (by omega)
        obtain ⟨c,hc⟩:∃ c,c = B[j]:=⟨_,rfl⟩
        have hcm:=hsB B[j] (List.getElem_mem _)
        have hgc:(B.map eS0)[j]? = some [.sl 1 (c.1.map eL),.sl 1 (c.2.map eL),.int 0]:=by rw [qD hjB,hc];rfl
        have htkB:X ++ (B.take (j + 1)).map (catS s) = (X ++ (B.take j).map (catS s)) ++ [catS s c]:=by
         rw [hc,List.take_succ_eq_append_getElem hjB,List.map_append,List.append_assoc];rfl
        rw [← hc] at hcm
        have hYl:(X ++ (B.take j).map (catS s)).length ≤ 256:=by rw [List.length_append,List.length_map,List.length_take];omega
        obtain ⟨Y,hY⟩:∃ Y,Y = X ++ (B.take j).map (catS s):=⟨_,rfl⟩
        rw [← hY] at htkB hYl ⊢
        have q1:=jV (n:=Y.length + 1) (by omega)
        have q2:=jW (n:=Y.length + 1) (c:=56) (by omega) (by omega)
        have hYm:(Y.map eS0).length = Y.length:=List.length_map _
        have e1:=eq_true (And.intro hsm.1 hcm.1)
        have e2:=eq_true (And.intro hsm.2 hcm.2)
        refine gw36 (kk 59) (Y4 l1 l2 hgc hBl) ?_
        (((with_reducible refine qQ.wFz (qJ 80) TCat qA [41,47] (tr:=?_) (s1:=?_) (rest:=?_) ?_ ?_ ?_);rotate_left 3;(focus ((with_reducible refine QW ?_);simp only [Zg,Zd,Zi,seval,drunF,xT,xN,valD,kU,List.contains_cons,List.contains_nil,TCat,TCat,codLLL_d,cat2_eq,e1,e2,q1,q2,hYm];with_reducible rfl));focus ((with_reducible refine QK ?_);simp only [Zk];kernel_rfl));(refine qY.opsT (qJ 80) (T:=TCat) (s':=?_) ?_ ?_;rotate_left 1;focus (simp only [Zg,Zi,seval,TCat,TCat,codLLL_d,cat2_eq,e1,e2,q1,q2,hYm];with_reducible rfl)))
        refine gw27 (kk 59) hwj ?_
        refine qZ.on (j + 1) ⟨hjB,by omega⟩ ?_
        rw [htkB]
        exact gw68
       ·have l1:((j:Int) < (B.length:Int)) = False:=eq_false (by omega)
        obtain rfl:j = B.length:=by omega
        rw [List.take_length]
        refine gw27 (kk 59) l1 ?_
        refine qZ.out () trivial ?_
        exact gw6 Y0
      ·rintro _ _
       refine gw27 (kk 59) hwi ?_
       refine qZ.on (i + 1) ⟨hiA,by omega⟩ ?_
       rw [htkA]
       exact gw6 Y0
     ·have j1:((i:Int) < (A.length:Int)) = False:=eq_false (by omega)
      obtain rfl:i = A.length:=by omega
      rw [List.take_length]
      refine gw27 (kk 59) j1 ?_
      refine qZ.out () trivial ?_
      exact gw6 Y0
    ·rintro _ _
     refine gw27 (kk 59) hwk ?_
     refine qZ.on (k + 1) ⟨hkb,by omega⟩ ?_
     rw [htk]
     exact gw6 Y0
   ·have i1:((k:Int) < ((brs t).length:Int)) = False:=eq_false (by omega)
    obtain rfl:k = (brs t).length:=by omega
    rw [List.take_length]
    refine gw27 (kk 59) i1 ?_
    refine qZ.out () trivial ?_
    exact gw6 Y0
  ·rintro _ _
   have g1:=qK0 hlev
   have g2:=prod_len hlev (by omega)
   obtain ⟨A,hA⟩:∃ A,A = prodS ((brs t).map split):=⟨_,rfl⟩
   rw [← hA] at g1 g2 ⊢
   refine gw27 (kk 59) Y0 ?_
   refine qQ.loop (β:=Nat) (γ:=Unit) (fun i => ⟨[(0,.c (.val (.sl 1 (t.map eI)))),(3,.c (.own 3 A.length)),(56,.c (.own 3 A.length)),(57,.c (.val (.int A.length))),(58,.c (.val (.int i)))],[(3,.row 3 ((A.take i).map (fun s => eS0 (rootS s)) ++ (A.drop i).map eS0) false)]⟩) (fun i => i ≤ A.length) (fun i => A.length - i)
    (fun _ => ⟨[(0,.c (.val (.sl 1 (t.map eI)))),(3,.c (.own 3 A.length))],[(3,.row 3 (A.map fun s => eS0 (rootS s)) false)]⟩) (fun _ => True) 0 (Nat.zero_le _) ?_ ?_ ?_
   ·exact gw69
   ·intro i hi
    have hi:i ≤ A.length:=hi
    have hwi:=qH (n:=i) (by omega)
    have hrl:((A.take i).map (fun s => eS0 (rootS s)) ++ (A.drop i).map eS0).length = A.length:=by rw [List.length_append,List.length_map,List.length_map,List.length_take,List.length_drop];omega
    by_cases hiA:i < A.length
    ·have j1:((i:Int) < (A.length:Int)) = True:=eq_true (by omega)
     have j2:((0:Int) ≤ (i:Int)) = True:=eq_true (by omega)
     obtain ⟨s,hs⟩:∃ s,s = A[i]:=⟨_,rfl⟩
     have hgood:=g1 A[i] (List.getElem_mem _)
     have hdr:A.drop i = s :: A.drop (i + 1):=by rw [hs];exact List.drop_eq_getElem_cons hiA
     have hti:((A.take i).map fun s => eS0 (rootS s)).length = i:=by rw [List.length_map,List.length_take];omega
     have hgs:((A.take i).map (fun s => eS0 (rootS s)) ++ (A.drop i).map eS0)[i]? = some [.sl 1 (s.1.map eL),.sl 1 (s.2.map eL),.int 0]:=by
      rw [List.getElem?_append_right (by omega),hti,Nat.sub_self,hdr];rfl
     rw [← hs] at hgood
     have hlv:∀ b ∈ s.2,qW b:=fun b hb => (hgood.1 b (by simp [hb])).1
     have hsum:=hgood.2
     have hro:=AFn.valT (a_rootOn s.2 (fun b hb => (hlv b hb).small (by have:=jN hb;omega)) (by omega))
     have hcr:=AFn.valT (xA0 (qB s.2) (kN hlv) (by rw [xF];omega))
     simp only [eL,eLL] at hro hcr
     refine gw70 (kk 59) (Y5 j1 j2 hgs hrl hwi) ?_
     have hset:((A.take i).map (fun s => eS0 (rootS s)) ++ (A.drop i).map eS0).set i [.sl 1 (s.1.map eL),.sl 1 [[.sl 1 ((canon (qB s.2)).map eI)]],.int 0] = (A.take (i + 1)).map (fun s => eS0 (rootS s)) ++ (A.drop (i + 1)).map eS0:=by
      rw [List.set_append_right _ _ (by omega),hti,Nat.sub_self,hdr,List.map_cons,List.set_cons_zero,List.take_succ_eq_append_getElem hiA,List.map_append,List.append_assoc,← hs]
      rfl
     refine qZ.on (i + 1) ⟨hiA,by omega⟩ ?_
     rw [← hset]
     exact gw6 Y0
    ·have j1:((i:Int) < (A.length:Int)) = False:=eq_false (by omega)
     obtain rfl:i = A.length:=by omega
     have hd0:A.drop A.length = []:=List.drop_length
     refine gw27 (kk 59) j1 ?_
     refine qZ.out () trivial ?_
     rw [List.take_length,hd0,List.map_nil,List.append_nil]
     exact gw6 Y0
   ·rintro _ _
    have q1:=jV (n:=A.length + 1) (by omega)
    have q2:=jW (n:=A.length + 1) (c:=56) (by omega) (by omega)
    have hml:(A.map fun s => eS0 (rootS s)).length = A.length:=List.length_map _
    refine gw71 (kk 59) (Y3 q1 q2 hml) ?_
    exact gw72
end
section
section
variable {α:Type} (f g:α→List (List D)) (n:α→Int)
def e3 (x:α):List D:=[.sl 1 (f x),.sl 1 (g x),.int (n x)]
def e3T (q:α × (List Nat × List Nat)):List D:=[.tag q.2.1 (.sl 1 (f q.1)),.tag q.2.2 (.sl 1 (g q.1)),.int (n q.1)]
def bl3 (q:α × (List Nat × List Nat)):List Nat:=q.2.1 ++ q.2.2
theorem tag_mk3:∀ (zs:List (α × (List Nat × List Nat))),TagL ((zs.map (·.1)).map (e3 f g n)) (zs.map (e3T f g n)) ((zs.map bl3).flatten)
 | [] => ⟨rfl,rfl⟩
 | z :: zs => ⟨_,_,bl3 z,_,rfl,rfl,⟨_,_,z.2.1,z.2.2,rfl,rfl,.inl rfl,⟨_,_,z.2.2,[],rfl,(List.append_nil _).symm,.inl rfl,⟨_,[],[],[],rfl,rfl,.inr ⟨rfl,rfl,rfl⟩,rfl,rfl⟩⟩⟩,tag_mk3 zs⟩
theorem tag_rows3:∀ {L:List α} {xs':List (List D)} {F:List Nat},TagL (L.map (e3 f g n)) xs' F→PlainL (L.map (e3 f g n)) xs'→∃ zs:List (α × (List Nat × List Nat)),L = zs.map (·.1)∧xs' = zs.map (e3T f g n)∧F = (zs.map bl3).flatten
 | [],xs',F,⟨h1,h2⟩,_ => ⟨[],rfl,h1,h2⟩
 | p :: L,xs',F,⟨y,ys,G,H,h1,h2,h3,h4⟩,⟨y',ys',p1,p2,p3⟩ => by
  obtain ⟨e1,e2⟩:y = y'∧ys = ys':=by rw [h1] at p1;simpa using p1
  subst e1;subst e2
  obtain ⟨zs,e1,e2,e3'⟩:=tag_rows3 h4 p3
  obtain ⟨y0,ys0,G0,H0,k1,k2,k3,y1,ys1,G1,H1,k4,k5,k6,y2,ys2,G2,H2,m4,m5,m6,m7,m8⟩:=h3
  obtain ⟨x0,xs0,a1,_,x1,xs1,a2,_,x2,xs2,a3,a4,_⟩:=p2
  obtain ⟨b1,b2⟩:y0 = x0∧ys0 = xs0:=by rw [k1] at a1;simpa using a1
  subst b1;subst b2
  obtain ⟨b1,b2⟩:y1 = x1∧ys1 = xs1:=by rw [k4] at a2;simpa using a2
  subst b1;subst b2
  obtain ⟨b1,b2⟩:y2 = x2∧ys2 = xs2:=by rw [m4] at a3;simpa using a3
  subst b1;subst b2
  have hy2:=a4 rfl
  subst m7;subst m8
  have hG2:G2 = []:=by
   rcases m6 with m6|⟨_,_,m6⟩
   ·rw [m6] at hy2;cases hy2
   ·exact m6
  subst hG2;subst hy2
  rcases k3 with rfl|⟨k3,_⟩
  ·rcases k6 with rfl|⟨k6,_⟩
   ·exact ⟨(p,(G0,G1)) :: zs,by rw [e1];rfl,by rw [h1,k1,k4,m4,e2];rfl,by rw [h2,k2,k5,m5,e3'];simp [bl3]⟩
   ·cases k6
  ·cases k3
end
abbrev Cu:=(List (List Int) × List Int) × Int
def eCu:Cu→List D:=e3 (fun c:Cu => c.1.1.map eL) (fun c => c.1.2.map eI) (·.2)
def cutS (z:Spl × Int):Cu:=((z.1.1,z.1.2.headD []),z.2)
def cutsL (t:List Int):List Cu:=(gathS (split t)).map cutS
section
variable {P:Program} {cfg:Cfg} {M:Nat→Prop} {ops:Array Oper} {s:St} {w0:W0} {w:World} {Ok:Nat→Prop} {N:Nat} {σ:Asg} {a:Act} {fs:List Fr} {Q:Exit→St→Prop}
theorem qY.nilA {l:List Oper} {Q:St→Prop} {r k:Nat} {pre post:List AC} (hk:0 < k) (hr:look r s.regs = some (.agg (pre ++ .nil :: post)))
  (h:qY P cfg M ops l Q ⟨insR r (.agg (pre ++ .val (.tag [] (.sl k [])) :: post)) s.regs,s.heap⟩):qY P cfg M ops l Q s:=by
 intro w0 Ok σ a w Q' hM hS hQ
 refine h w0 Ok σ a w Q' hM ⟨hS.below,hS.ok1,hS.ok2,hS.defers,hS.size,fun q av hq => ?_,hS.rows,hS.disj,hS.inv,hS.hid⟩ hQ
 rw [jJ] at hq
 by_cases e:r = q
 ·rw [if_pos e] at hq
  subst e
  cases hq
  obtain ⟨us,hv1,hv2⟩:=hS.regs r _ hr
  refine ⟨us,hv1,relCs_repl hv2 (fun v _ hn => ?_)⟩
  have hn:v = .slice none 0 0:=hn
  subst hn
  exact kZ.2 ⟨by simp,kH.2 ⟨none,[],[],Row.nil _ k,ownR.nil hk,rfl⟩⟩
 ·rw [if_neg e] at hq
  exact hS.regs q av hq
theorem qY.openR {l:List Oper} {Q:St→Prop} {r k:Nat} {G:List Nat} {xs:List (List D)} (hr:look r s.regs = some (.c (.val (.tag G (.sl k xs)))))
  (h:∀ xs' F,TagL xs xs' F→PlainL xs xs'→F.Sublist G→qY P cfg M ops l Q ⟨insR r (.c (.val (.sl k xs'))) s.regs,s.heap⟩):qY P cfg M ops l Q s:=by
 intro w0 Ok σ a w Q' hM hS hQ
 obtain ⟨xs',F,h1,h2,h3,h4⟩:=hS.openR hr
 exact h xs' F h1 h2 h3 w0 Ok σ a w Q' hM h4 hQ
end
theorem tag_one {t:List Int} {xs':List (List D)} {F:List Nat} (h:TagL [[.sl 1 (t.map eI)]] xs' F):xs' = [[.tag F (.sl 1 (t.map eI))]]:=by
 obtain ⟨y,ys,G,H,h1,h2,⟨y0,ys0,G0,H0,k1,k2,k3,k4,k5⟩,h3,h4⟩:=h
 subst h3;subst h4;subst k4;subst k5
 rcases k3 with rfl|⟨k3,_⟩
 ·rw [h1,k1,h2,k2];simp
 ·cases k3
theorem split_trunk (t:List Int) (h:qW t):∀ s ∈ split t,s.2.length ≤ 1:=fun s hs => by
 rw [vK h] at hs
 rcases List.mem_append.1 hs with hs|hs
 ·obtain ⟨a,_,rfl⟩:=List.mem_map.1 hs
  exact Nat.le_refl _
 ·obtain rfl:=List.mem_singleton.1 hs
  exact Nat.zero_le _
theorem jQ0 (t:List Int) (h:qW t):∀ z ∈ gathS (split t),z.1.2.length ≤ 1:=fun z hz => by
 obtain ⟨s,hs,e⟩:=List.mem_map.1 ((yB (split t)).key z hz)
 rw [← e]
 show (sortC cmpT s.2).length ≤ 1
 rw [vT];exact split_trunk t h s hs
theorem a_cutsOf (t:List Int) (h:qW t) (hl:t.length ≤ 8):AFn Tryz.prog 58 [eL t] (· = [.own 3 ((cutsL t).map eCu) true]):=by
 have hsp:=a_splitTree 8 (Nat.le_refl _) t h hl
 have hlen:(split t).length ≤ 256:=by
  have h1:=kM _ (Nat.le_refl _) h
  have h2:2 ^ t.length ≤ 2 ^ 8:=Nat.pow_le_pow_right (by decide) hl
  omega
 have hga:=a_gathered (split t) (by omega) (fun s hs => ((xO _ (Nat.le_refl _) h s hs).ha (by omega)).sm)
 have hgl:(gathS (split t)).length ≤ 256:=by have:=(yB (split t)).len;rw [List.length_map] at this;omega
 have htr:=jQ0 t h
 obtain ⟨L,hL⟩:∃ L,L = gathS (split t):=⟨_,rfl⟩
 have hcl:cutsL t = L.map cutS:=by rw [hL];rfl
 rw [hcl]
 rw [← hL] at hga hgl htr
 simp only [eL] at hsp
 refine AFn.of_runs (qJ 36) Tryz.func58 rfl rfl rfl gz ?_
 have hres:Tryz.f58.results.toList = [.tmp 2]:=rfl
 have hrts:Tryz.f58.resultTypes.toList = [29]:=rfl
 simp only [qU,qT,eL,eI,eLL,eB,Nat.zero_add,Nat.reduceAdd]
 intro M
 refine qQ.of ?_
 refine gw73 (kk 13) ?_
 refine qQ.tag' 10 (k:=3) (xs:=L.map eSp) rfl ?_
 intro xs' F ht hpl hnd hF
 obtain ⟨zs,e1,e2,e3'⟩:=tag_rows3 _ _ _ ht hpl
 subst e2;subst e3'
 have hzl:zs.length = L.length:=by rw [e1,List.length_map]
 refine qQ.loop (β:=Nat × List (Cu × (List Nat × List Nat))) (γ:=List (Cu × (List Nat × List Nat))) (fun x => ⟨[(3,.c (.own 3 x.2.length)),(10,.c (.own 10 L.length)),(11,.c (.val (.int L.length))),(12,.c (.val (.int x.1)))],[(3,.row 3 (x.2.map (e3T (fun c:Cu => c.1.1.map eL) (fun c => c.1.2.map eI) (·.2))) false),(10,.row 3 (zs.map (e3T (fun z:Spl × Int => z.1.1.map eL) (fun z => z.1.2.map eL) (·.2))) false)]⟩)
  (fun x => x.1 ≤ L.length∧x.2.map (fun q => q.1) = (L.take x.1).map cutS∧((x.2.map bl3).flatten).Sublist ((zs.take x.1).map bl3).flatten) (fun x => L.length - x.1)
  (fun qs => ⟨[(3,.c (.own 3 qs.length))],[(3,.row 3 (qs.map (e3T (fun c:Cu => c.1.1.map eL) (fun c => c.1.2.map eI) (·.2))) false)]⟩) (fun qs => qs.map (fun q => q.1) = L.map cutS∧((qs.map bl3).flatten).Sublist (zs.map bl3).flatten) (0,[]) ⟨Nat.zero_le _,rfl,List.Sublist.refl _⟩ ?_ ?_ ?_
 ·exact gw55
 ·rintro ⟨i,qs⟩ ⟨hi,hq,hsub⟩
  simp only at hi hq hsub ⊢
  have hw:=qH (n:=i) (by omega)
  have hqn:qs.length = i:=by
   have:=congrArg List.length hq
   rw [List.length_map,List.length_map,List.length_take] at this;omega
  have hzm:(zs.map (e3T (fun z:Spl × Int => z.1.1.map eL) (fun z => z.1.2.map eL) (·.2))).length = L.length:=by rw [List.length_map,hzl]
  by_cases hiL:i < L.length
  ·have hiz:i < zs.length:=by omega
   have i1:((i:Int) < (L.length:Int)) = True:=eq_true (by omega)
   have i2:((0:Int) ≤ (i:Int)) = True:=eq_true (by omega)
   obtain ⟨z,hz⟩:∃ z,z = zs[i]:=⟨_,rfl⟩
   have hLi:L[i] = z.1:=by simp only [e1,List.getElem_map,hz]
   have hg:(zs.map (e3T (fun z:Spl × Int => z.1.1.map eL) (fun z => z.1.2.map eL) (·.2)))[i]? = some (e3T (fun z:Spl × Int => z.1.1.map eL) (fun z => z.1.2.map eL) (·.2) z):=by rw [qD hiz,hz]
   have hone:=htr L[i] (List.getElem_mem _)
   have htkz:(zs.take (i + 1)).map bl3 = (zs.take i).map bl3 ++ [bl3 z]:=by rw [List.take_succ_eq_append_getElem hiz,List.map_append,← hz];rfl
   have htkL:(L.take (i + 1)).map cutS = (L.take i).map cutS ++ [cutS z.1]:=by rw [List.take_succ_eq_append_getElem hiL,List.map_append,hLi];rfl
   rw [hLi] at hone
   obtain ⟨⟨⟨f,g⟩,n⟩,⟨F,G⟩⟩:=z
   simp only [e3T] at hg
   simp only at hone
   have q1:=jV (n:=qs.length + 1) (by omega)
   have q2:=jW (n:=qs.length + 1) (c:=56) (by omega) (by omega)
   match g,hone with
   | [],_ =>
    have j1:((([]:List (List Int)).length:Int) > 0) = False:=eq_false (by simp)
    ((refine gw74 (kk 13) i1 ?_);with_reducible (apply QS (qJ 36) Tab.none;refine QW ?_;simp only [Zg,Zi,seval,i1];rfl);(refine gw74 (kk 13) i1 ?_))
    ((refine gw75 (kk 13) (Y4 i1 i2 hg hzm) ?_);with_reducible (apply QS (qJ 36) Tab.none;refine QW ?_;simp only [Zg,Zi,seval,i1,i2,hg,hzm,Int.toNat_natCast];rfl);(refine gw75 (kk 13) (Y4 i1 i2 hg hzm) ?_))
    refine qQ.regCut (qJ 36) Tab.none 5 (s1:=?_) ?_ ?_
    rotate_left 1
    focus (refine Work.mk ?_;simp only [Zg,Zi,seval];with_reducible rfl)
    simp only [List.toList_toArray,List.drop_succ_cons,List.drop_zero]
    refine qY.nilA (r:=20) (k:=1) (pre:=[.val (.tag F (.sl 1 (f.map eL)))]) (post:=[.val (.int n)]) (by decide) rfl ?_
    refine qY.opsT (qJ 36) (T:=Tab.none) (s':=?_) ?_ ?_
    rotate_left 1
    focus (simp only [Zg,Zi,seval];with_reducible rfl)
    refine gw76 (kk 13) (Y4 j1 hw q1 q2) ?_
    refine qZ.on (i + 1,qs ++ [(((f,[]),n),(F,[]))]) ⟨⟨hiL,?_,?_⟩,by show L.length - (i + 1) < L.length - i;omega⟩ ?_
    ·show List.map (fun q:Cu × (List Nat × List Nat) => q.1) (qs ++ [(((f,[]),n),(F,[]))]) = _
     rw [List.map_append,hq,htkL];rfl
    ·show (((qs ++ [(((f,[]),n),(F,[]))]).map bl3).flatten).Sublist _
     rw [htkz,List.map_append,List.flatten_append,List.flatten_append]
     refine List.Sublist.append hsub ?_
     simp [bl3]
    ·exact gw77
   | [tr],_ =>
    have j1:((([tr]:List (List Int)).length:Int) > 0) = True:=eq_true (by simp)
    ((refine gw74 (kk 13) i1 ?_);with_reducible (apply QS (qJ 36) Tab.none;refine QW ?_;simp only [Zg,Zi,seval,i1];rfl);(refine gw74 (kk 13) i1 ?_))
    ((refine gw75 (kk 13) (Y4 i1 i2 hg hzm) ?_);with_reducible (apply QS (qJ 36) Tab.none;refine QW ?_;simp only [Zg,Zi,seval,i1,i2,hg,hzm,Int.toNat_natCast];rfl);(refine gw75 (kk 13) (Y4 i1 i2 hg hzm) ?_))
    ((refine gw74 (kk 13) Y0 ?_);with_reducible (apply QS (qJ 36) Tab.none;refine QW ?_;simp only [Zg,Zi,seval];rfl);(refine gw74 (kk 13) Y0 ?_))
    ((refine gw78 (kk 13) j1 ?_);with_reducible (apply QS (qJ 36) Tab.none;refine QW ?_;simp only [Zg,Zi,seval,j1,List.length_map];rfl);(refine gw78 (kk 13) j1 ?_))
    refine qQ.regCut (qJ 36) Tab.none 2 (s1:=?_) ?_ ?_
    rotate_left 1
    focus (refine Work.mk ?_;simp only [Zg,Zi,seval];with_reducible rfl)
    simp only [List.toList_toArray,List.drop_succ_cons,List.drop_zero]
    refine qY.openR (r:=26) (k:=1) (G:=G) (xs:=[tr].map eL) rfl ?_
    intro ys G' ht1 _ hG'
    have hys:=tag_one ht1
    subst hys
    refine qY.opsT (qJ 36) (T:=Tab.none) (s':=?_) ?_ ?_
    rotate_left 1
    focus (simp only [Zg,Zi,seval,List.length_map];with_reducible rfl)
    refine gw5 (kk 13) (Y3 hw q1 q2) ?_
    refine qZ.on (i + 1,qs ++ [(((f,tr),n),(F,G'))]) ⟨⟨hiL,?_,?_⟩,by show L.length - (i + 1) < L.length - i;omega⟩ ?_
    ·show List.map (fun q:Cu × (List Nat × List Nat) => q.1) (qs ++ [(((f,tr),n),(F,G'))]) = _
     rw [List.map_append,hq,htkL];rfl
    ·show (((qs ++ [(((f,tr),n),(F,G'))]).map bl3).flatten).Sublist _
     rw [htkz,List.map_append,List.flatten_append,List.flatten_append]
     refine List.Sublist.append hsub ?_
     simp only [bl3,List.map_cons,List.map_nil,List.flatten_cons,List.flatten_nil,List.append_nil]
     exact List.Sublist.append (List.Sublist.refl _) hG'
    ·exact gw77
  ·have i1:((i:Int) < (L.length:Int)) = False:=eq_false (by omega)
   obtain rfl:i = L.length:=by omega
   rw [List.take_length] at hq
   rw [← hzl,List.take_length] at hsub
   refine gw7 (kk 13) i1 ?_
   refine qZ.out qs ⟨hq,hsub⟩ ?_
   exact gw6 Y0
 ·rintro qs ⟨hq,hsub⟩
  refine gw7 (kk 13) Y0 ?_
  refine Ends.un (by simp) hres hrts (r:=?_) (r':=.own 3 ((L.map cutS).map eCu) true) (l:=[]) (ks:=?_) ?_ ?_ (by simp) ?_ rfl
  rotate_left 2
  focus (simp only [jG,ares,Zg,Zi,seval];with_reducible rfl)
  focus simp
  rw [← hq]
  exact ⟨(qs.map bl3).flatten,hnd.sublist hsub,fun b hb => hF b (hsub.subset hb),.inl ⟨3,_,_,rfl,rfl,tag_mk3 _ _ _ qs⟩⟩
end
section
theorem a_l05Cuts (t:List Int) (h:qW t) (hc:canon t = t) (hl:t.length ≤ 8):AFn Tryz.prog 138 [eL t] (· = [.own 3 ((cutsL t).map eCu) false]):=by
 have htr:=a_l05Tree 8 (Nat.le_refl _) t h hc hl
 have hone:=jQ0 t h
 have hgood:=wG (xO _ (Nat.le_refl _) h)
 have hgl:(gathS (split t)).length ≤ 256:=by
  have h0:=(yB (split t)).len
  rw [List.length_map] at h0
  have h1:=kM _ (Nat.le_refl _) h
  have h2:2 ^ t.length ≤ 2 ^ 8:=Nat.pow_le_pow_right (by decide) hl
  omega
 obtain ⟨L,hL⟩:∃ L,L = gathS (split t):=⟨_,rfl⟩
 have hcl:cutsL t = L.map cutS:=by rw [hL];rfl
 rw [hcl]
 rw [← hL] at htr hone hgood hgl
 simp only [eL] at htr
 have hLm:(L.map eSp).length = L.length:=List.length_map _
 refine AFn.of_runs (qJ 49) Tryz.func138 rfl rfl rfl gz ?_
 have hres:Tryz.f138.results.toList = [.tmp 2]:=rfl
 have hrts:Tryz.f138.resultTypes.toList = [29]:=rfl
 simp only [qU,qT,eL,eI,eLL,eB,Nat.zero_add,Nat.reduceAdd]
 intro M
 refine qQ.of ?_
 refine gw79 (kk 7) ?_
 refine qQ.loop (β:=Nat) (γ:=Unit) (fun i => ⟨[(3,.c (.val (.sl 3 (L.map eSp)))),(4,.c (.own 4 i)),(5,.c (.val (.int i)))],[(4,.row 3 (((L.take i).map cutS).map eCu) false)]⟩) (fun i => i ≤ L.length) (fun i => L.length - i)
  (fun _ => ⟨[(4,.c (.own 4 L.length))],[(4,.row 3 ((L.map cutS).map eCu) false)]⟩) (fun _ => True) 0 (Nat.zero_le _) ?_ ?_ ?_
 ·exact gw35 Y0
 ·intro i hi
  have hi:i ≤ L.length:=hi
  have hw:=qH (n:=i) (by omega)
  have hrl:(((L.take i).map cutS).map eCu).length = i:=by rw [List.length_map,List.length_map,List.length_take];omega
  by_cases hiL:i < L.length
  ·have i1:((i:Int) < (L.length:Int)) = True:=eq_true (by omega)
   have i2:((0:Int) ≤ (i:Int)) = True:=eq_true (by omega)
   obtain ⟨z,hz⟩:∃ z,z = L[i]:=⟨_,rfl⟩
   have hg:(L.map eSp)[i]? = some [.sl 1 (z.1.1.map eL),.sl 1 (z.1.2.map eL),.int z.2]:=by rw [qD hiL,hz];rfl
   have htk:((L.take (i + 1)).map cutS).map eCu = ((L.take i).map cutS).map eCu ++ [eCu (cutS z)]:=by
    rw [hz,List.take_succ_eq_append_getElem hiL,List.map_append,List.map_append];rfl
   have hz1:=hone L[i] (List.getElem_mem _)
   have hz2:=(hgood L[i] (List.getElem_mem _)).2.2
   rw [← hz] at hz1 hz2
   have hha:=hz2.ha (by omega)
   have how:=AFn.val1 (a_l01Own2 z.1.1 (by have:=hha.1.1;omega) (fun b hb => by have:=jN hb;have:=hha.1.2;omega))
   have q1:=jV (n:=i + 1) (by omega)
   have q2:=jW (n:=i + 1) (c:=56) (by omega) (by omega)
   obtain ⟨⟨f,g⟩,n⟩:=z
   simp only at hg hz1 how hha
   simp only [eLL] at how
   match g,hz1 with
   | [],_ =>
    have j1:((([]:List (List Int)).length:Int) > 0) = False:=eq_false (by simp)
    refine gw80 (kk 7) (Y9 i1 i2 j1 hg hLm hw hrl q1 q2) ?_
    refine qZ.on (i + 1) ⟨hiL,by omega⟩ ?_
    rw [htk]
    exact gw81
   | [tr],_ =>
    have j1:((([tr]:List (List Int)).length:Int) > 0) = True:=eq_true (by simp)
    have hot:=AFn.valT (a_l01Own tr (by have h6:qX [tr] ≤ 50:=hha.2.2;have h5:qX [tr] = tr.length + 0:=rfl;omega))
    simp only [eL] at hot
    refine gw82 (kk 7) (Y9 i1 i2 j1 hg hLm hw hrl q1 q2) ?_
    refine qZ.on (i + 1) ⟨hiL,by omega⟩ ?_
    rw [htk]
    exact gw83
  ·have i1:((i:Int) < (L.length:Int)) = False:=eq_false (by omega)
   obtain rfl:i = L.length:=by omega
   refine gw27 (kk 7) (Yp i1 hLm) ?_
   refine qZ.out () trivial ?_
   rw [List.take_length]
   exact gw6 Y0
 ·rintro _ _
  refine gw27 (kk 7) Y0 ?_
  exact gw8
end
section
def brOf (t:List Int):List (List Int) × Int:=if lev8 t = true then (forest (brs (canon t)),0) else ([],1)
end
section
section
variable {κ:Type} {c:κ→κ→Int} (hc:Cmp c)
include hc
end
def wF (F:Spl→Int) (f:List (List Int)):Int:=((prodS (f.map split)).map fun s => F (nrmS s)).sum
theorem sum_perm {l m:List Int} (h:l.Perm m):l.sum = m.sum:=by
 induction h with
 | nil => rfl
 | cons q _ ih => rw [List.sum_cons,List.sum_cons,ih]
 | swap p q L => simp only [List.sum_cons];omega
 | trans _ _ h1 h2 => rw [h1,h2]
theorem exp_lin {κ:Type} (F:κ→Int):∀ (L:List (κ × Int)),(∀ z ∈ L,1 ≤ z.2)→((expN L).map F).sum = (L.map fun z => z.2 * F z.1).sum
 | [],_ => rfl
 | z :: L,h => by
  have hz:=h z (by simp)
  rw [yW,List.map_append,List.map_replicate,List.map_cons,List.sum_cons,← exp_lin F L fun q hq => h q (by simp [hq])]
  have e:∀ (n:Nat) (x:Int) (l:List Int),(List.replicate n x ++ l).sum = n * x + l.sum:=by
   intro n x l
   induction n with
   | zero => simp
   | succ n ih => rw [List.replicate_succ,List.cons_append,List.sum_cons,ih,Int.natCast_succ,Int.add_mul];omega
  rw [e,Int.toNat_of_nonneg (by omega)]
theorem gath_lin (F:Spl→Int) (L:List Spl):((gathS L).map fun z => z.2 * F z.1).sum = (L.map fun s => F (nrmS s)).sum:=by
 rw [← exp_lin F _ (yB L).1.2,sum_perm ((yB L).2.map F),List.map_map]
 rfl
def rtF (f:List (List Int)):List (List Int):=[canon (qB f)]
theorem wF_root (F:Spl→Int) {f:List (List Int)} (h:∀ b ∈ f,qW b):wF F (rtF f) = wF (fun s => F (rootS s)) f + F (rtF f,[]):=by
 have hl:=kN h
 have e1:prodS ((rtF f).map split) = split (canon (qB f)):=by
  show List.flatMap (fun s => (split (canon (qB f))).map (catS s)) [([],[])] = _
  rw [List.flatMap_cons,List.flatMap_nil,List.append_nil]
  have:catS (([],[]):Spl) = id:=by funext s;rfl
  rw [this,List.map_id]
 unfold wF
 rw [e1]
 have hp:=(split_canon _ (Nat.le_refl _) hl).map F
 rw [List.map_map,List.map_map] at hp
 have hp2:=sum_perm hp
 show ((split (canon (qB f))).map (F ∘ nrmS)).sum = _
 rw [hp2,vK hl,vP h,List.map_append,List.sum_append,List.map_map]
 have e2:((prodS (f.map split)).map ((F ∘ nrmS) ∘ fun s => (s.1,[canon (qB s.2)]))) = (prodS (f.map split)).map fun s => F (rootS (nrmS s)):=by
  refine List.map_congr_left fun s hs => ?_
  show F (nrmS (rootS s)) = _
  rw [nrm_root (wX h s hs)]
 rw [e2]
 congr 1
 show F (nrmS ([canon (qB f)],[])) + 0 = _
 rw [Int.add_zero];rfl
def OkF (g:List (List Int)):Prop:=(∀ t ∈ g,qW t∧canon t = t)∧g.Pairwise fun a b => cmpT a b ≤ 0
theorem okF_of {f:List (List Int)} (h:forB f = true):OkF f:=⟨fun t ht => ⟨forB_lev h t ht,forB_can h t ht⟩,(kQ h).2.2⟩
structure KoF (e:Elt) (list:List (Int × Spl)) (r:Elt) (whole:List (Int × Spl)):Prop where
 rl:r.length = e.length
 wl:whole.length = list.length + r.length
 all:∀ w ∈ whole,(w.2.2 = []∧∃ q ∈ r,q.1 = w.1∧q.2 = w.2.1) ∨ (∃ T,w.2.2 = [T]∧lev8 T = true∧∃ q ∈ list,q.1 = w.1∧q.2.1 = w.2.1∧q.2.2 = (brOf T).1)
end
section
theorem catS_assoc (a b d:Spl):catS (catS a b) d = catS a (catS b d):=by
 unfold catS
 simp only [List.append_assoc]
theorem foldS_from:∀ (Ls:List (List Spl)) (A:List Spl),foldS A Ls = A.flatMap fun s => (foldS [([],[])] Ls).map (catS s)
 | [],A => by
  show A = _
  have:∀ s:Spl,[(([],[]):Spl)].map (catS s) = [s]:=fun s => by
   show [catS s ([],[])] = _
   unfold catS;simp
  have e:(fun s:Spl => (foldS [([],[])] []).map (catS s)) = fun s => [s]:=by funext s;exact this s
  rw [e];simp
 | L :: Ls,A => by
  have h1:foldS A (L :: Ls) = foldS (A.flatMap fun s => L.map (catS s)) Ls:=rfl
  have h2:foldS [([],[])] (L :: Ls) = foldS ([(([],[]):Spl)].flatMap fun s => L.map (catS s)) Ls:=rfl
  have h3:([(([],[]):Spl)].flatMap fun s => L.map (catS s)) = L:=by
   rw [List.flatMap_cons,List.flatMap_nil,List.append_nil]
   have:catS (([],[]):Spl) = id:=by funext s;rfl
   rw [this,List.map_id]
  rw [h1,h2,h3,foldS_from Ls (A.flatMap fun s => L.map (catS s)),foldS_from Ls L,List.flatMap_assoc]
  congr 1
  funext s
  rw [List.flatMap_map,List.map_flatMap]
  congr 1
  funext c
  rw [List.map_map]
  exact List.map_congr_left fun d _ => catS_assoc s c d
theorem sum_flatM {α:Type} (g:α→List Int):∀ (L:List α),(L.flatMap g).sum = (L.map fun a => (g a).sum).sum
 | [] => rfl
 | a :: L => by rw [List.flatMap_cons,List.sum_append,sum_flatM g L,List.map_cons,List.sum_cons]
theorem wF_nil (F:Spl→Int):wF F [] = F ([],[]):=by
 show F (nrmS ([],[])) + 0 = _
 rw [Int.add_zero];rfl
theorem wF_perm (F:Spl→Int) {f g:List (List Int)} (h:f.Perm g):wF F f = wF F g:=by
 have hp:=(prodS_perm (h.map split) [([],[])]).map F
 rw [List.map_map,List.map_map] at hp
 exact sum_perm hp
theorem wF_app (F:Spl→Int) (f g:List (List Int)):wF F (f ++ g) = wF (fun s => wF (fun u => F (mulS s u)) g) f:=by
 have e1:prodS ((f ++ g).map split) = (prodS (f.map split)).flatMap fun s => (prodS (g.map split)).map (catS s):=by
  rw [List.map_append]
  show foldS [([],[])] (f.map split ++ g.map split) = _
  have:foldS [([],[])] (f.map split ++ g.map split) = foldS (foldS [([],[])] (f.map split)) (g.map split):=by unfold foldS;rw [List.foldl_append]
  rw [this,foldS_from];rfl
 unfold wF
 rw [e1,List.map_flatMap,sum_flatM]
 congr 1
 refine List.map_congr_left fun s _ => ?_
 rw [List.map_map]
 congr 1
 refine List.map_congr_left fun c _ => ?_
 show F (nrmS (catS s c)) = _
 rw [nrm_cat]
theorem wF_mulF (F:Spl→Int) (f g:List (List Int)):wF F (mulF f g) = wF (fun s => wF (fun u => F (mulS s u)) g) f:=by
 rw [← wF_app]
 exact wF_perm F (jR _)
structure CutOk (f:List (List Int)) (s:Spl):Prop where
 c:OkF s.1
 t:OkF s.2
 n:qX s.1 + qX s.2 = qX f
theorem cut_ok {f:List (List Int)} (h:∀ b ∈ f,qW b):∀ s ∈ prodS (f.map split),CutOk f (nrmS s):=fun s hs => by
 have k:=(qK0 h s hs).nrm
 exact ⟨⟨fun t ht => k.1 t (by simp only [List.mem_append];exact .inl ht),kD yH _⟩,⟨fun t ht => k.1 t (by simp only [List.mem_append];exact .inr ht),kD yH _⟩,k.2⟩
theorem wF_congr {F G:Spl→Int} {f:List (List Int)} (h:∀ b ∈ f,qW b) (e:∀ s,CutOk f s→F s = G s):wF F f = wF G f:=by
 unfold wF
 congr 1
 exact List.map_congr_left fun s hs => e _ (cut_ok h s hs)
theorem OkF.lev {f:List (List Int)} (h:OkF f):∀ b ∈ f,qW b:=fun b hb => (h.1 b hb).1
theorem okF_nil:OkF []:=⟨fun t ht => (nomatch ht),List.Pairwise.nil⟩
theorem okF_mul {f g:List (List Int)} (hf:OkF f) (hg:OkF g):OkF (mulF f g):=⟨fun t ht => by
  have:t ∈ f ++ g:=(jR (c:=cmpT) (f ++ g)).subset ht
  rcases List.mem_append.1 this with h|h
  ·exact hf.1 t h
  ·exact hg.1 t h,mulF_sorted f g⟩
theorem rtF_sum {f:List (List Int)} (h:OkF f):qX (rtF f) = qX f + 1:=by
 have e:qX (rtF f) = (canon (qB f)).length:=by simp [rtF,qX]
 rw [e,wI (kN h.lev),xF]
theorem canon_sub {t:List Int} (h:qW t) (hc:canon t = t):∀ b ∈ brs t,canon b = b:=fun b hb => by
 have hl:∀ b ∈ sortC cmpD ((brs t).map canon),qW b:=fun b hb' => by
  rw [yG,List.mem_map] at hb'
  obtain ⟨x,hx,rfl⟩:=hb'
  exact kY (jC h x hx)
 have e:brs t = sortC cmpD ((brs t).map canon):=by
  conv => lhs;rw [← hc,xS h]
  exact vP hl
 rw [e,yG,List.mem_map] at hb
 obtain ⟨x,hx,rfl⟩:=hb
 exact qV0 (jC h x hx)
theorem tree_root {t:List Int} (h:qW t) (hc:canon t = t):OkF (forest (brs t))∧rtF (forest (brs t)) = [t]∧qX (forest (brs t)) + 1 = t.length:=by
 refine ⟨⟨fun b hb => ?_,kD yH _⟩,?_,?_⟩
 ·have hb:=yG.1 hb
  exact ⟨jC h b hb,canon_sub h hc b hb⟩
 ·unfold rtF forest
  rw [canon_root (bs:=sortC cmpT (brs t)) (cs:=brs t) (fun b hb => jC h b (yG.1 hb)) (jR _),jX0 h,hc]
 ·unfold forest
  rw [vQ (jR _),kW h]
theorem hopf_ind {P:List (List Int)→Prop} (h0:P []) (hr:∀ g,OkF g→P g→P (rtF g)) (hm:∀ f g,OkF f→OkF g→P f→P g→P (mulF f g)):∀ f,OkF f→P f:=by
 have key:∀ (n:Nat) (f:List (List Int)),qX f ≤ n→OkF f→P f:=by
  intro n
  induction n with
  | zero =>
   intro f hn hf
   cases f with
   | nil => exact h0
   | cons t f =>
    have:=(hf.1 t (by simp)).1.pos
    have hs:qX (t :: f) = t.length + qX f:=by simp [qX]
    omega
  | succ n ih =>
   intro f hn hf
   cases f with
   | nil => exact h0
   | cons t f =>
    obtain ⟨ht,htc⟩:=hf.1 t (by simp)
    have hf':OkF f:=⟨fun x hx => hf.1 x (by simp [hx]),(List.pairwise_cons.1 hf.2).2⟩
    have hp:=ht.pos
    have hs:qX (t :: f) = t.length + qX f:=by simp [qX]
    obtain ⟨a1,a2,a3⟩:=tree_root ht htc
    have h1:P [t]:=by
     rw [← a2]
     exact hr _ a1 (ih _ (by omega) a1)
    have h2:P f:=ih f (by omega) hf'
    have e:t :: f = mulF [t] f:=(xT0 yH hf.2).symm
    rw [e]
    exact hm [t] f ⟨fun x hx => by obtain rfl:=List.mem_singleton.1 hx;exact ⟨ht,htc⟩,List.pairwise_singleton _ _⟩ hf' h1 h2
 exact fun f hf => key _ f (Nat.le_refl _) hf
theorem counit2:∀ f,OkF f→∀ H:List (List Int)→Int,wF (fun s => if s.2 = [] then H s.1 else 0) f = H f:=by
 refine hopf_ind (fun H => ?_) (fun g hg ih H => ?_) (fun x y hx hy ihx ihy H => ?_)
 ·rw [wF_nil];rfl
 ·refine (wF_root (fun s => if s.2 = [] then H s.1 else 0) hg.lev).trans ?_
  have e:wF (fun s => if (rootS s).2 = [] then H (rootS s).1 else 0) g = 0:=by
   have:wF (fun s => if (rootS s).2 = [] then H (rootS s).1 else 0) g = wF (fun _ => 0) g:=wF_congr hg.lev fun u _ => by rw [if_neg (by simp [rootS])]
   rw [this]
   unfold wF
   induction prodS (g.map split) with
   | nil => rfl
   | cons a L ih => rw [List.map_cons,List.sum_cons,ih];rfl
  show wF (fun s => if (rootS s).2 = [] then H (rootS s).1 else 0) g + (if ([]:List (List Int)) = [] then H (rtF g) else 0) = _
  rw [e,if_pos rfl]
  omega
 ·refine (wF_mulF (fun s => if s.2 = [] then H s.1 else 0) x y).trans ?_
  have e:∀ s:Spl,wF (fun u => if (mulS s u).2 = [] then H (mulS s u).1 else 0) y = if s.2 = [] then H (mulF s.1 y) else 0:=fun s => by
   have hl:∀ u:Spl,((mulS s u).2 = []) ↔ (s.2 = []∧u.2 = []):=fun u => by
    show mulF s.2 u.2 = [] ↔ _
    constructor
    ·intro h
     have:=congrArg List.length h
     rw [mulF_len,List.length_nil] at this
     exact ⟨List.eq_nil_of_length_eq_zero (by omega),List.eq_nil_of_length_eq_zero (by omega)⟩
    ·rintro ⟨h1,h2⟩
     rw [h1,h2];rfl
   by_cases h1:s.2 = []
   ·rw [if_pos h1,← ihy fun z => H (mulF s.1 z)]
    refine wF_congr hy.lev fun u _ => ?_
    by_cases h2:u.2 = []
    ·rw [if_pos ((hl u).2 ⟨h1,h2⟩),if_pos h2];rfl
    ·rw [if_neg (fun h => h2 ((hl u).1 h).2),if_neg h2]
   ·rw [if_neg h1]
    have:wF (fun u => if (mulS s u).2 = [] then H (mulS s u).1 else 0) y = wF (fun _ => 0) y:=wF_congr hy.lev fun u _ => by rw [if_neg (fun h => h1 ((hl u).1 h).1)]
    rw [this]
    unfold wF
    induction prodS (y.map split) with
    | nil => rfl
    | cons a L ih => rw [List.map_cons,List.sum_cons,ih];rfl
  have e2:(fun s => wF (fun u => if (mulS s u).2 = [] then H (mulS s u).1 else 0) y) = fun s:Spl => if s.2 = [] then H (mulF s.1 y) else 0:=by funext s;exact e s
  rw [e2]
  exact ihx fun z => H (mulF z y)
end
section
def stepA (g:List Int→Elt) (out:Elt) (t:List Int):Elt:=sumS cmpF (prodL out (g t))
def antF (g:List Int→Elt) (f:List (List Int)):Elt:=f.foldl (stepA g) [(1,[])]
def cutE (g:List Int→Elt) (c:Cu):Elt:=if c.1.2 = [] then [] else sumS cmpF (prodL (antF g c.1.1) [(mP (-c.2),[c.1.2])])
def antT:Nat→List Int→Elt
 | 0,_ => []
 | n + 1,t => sumS cmpF ((cutsL t).flatMap (cutE (antT n)))
def ant1 (t:List Int):Elt:=antT t.length t
def ant (f:List (List Int)):Elt:=antF ant1 f
theorem antF_congr {g g':List Int→Elt} {f:List (List Int)} (h:∀ t ∈ f,g t = g' t):antF g f = antF g' f:=by
 unfold antF
 have key:∀ (f:List (List Int)) (out:Elt),(∀ t ∈ f,g t = g' t)→f.foldl (stepA g) out = f.foldl (stepA g') out:=by
  intro f
  induction f with
  | nil => intro out _;rfl
  | cons t f ih =>
   intro out h
   rw [List.foldl_cons,List.foldl_cons,ih _ fun x hx => h x (by simp [hx])]
   congr 1
   unfold stepA
   rw [h t (by simp)]
 exact key f _ h
theorem wP {t:List Int} (h:qW t) {c:Cu} (hc:c ∈ cutsL t):∃ z ∈ gathS (split t),c = cutS z∧xY t.length z.1∧1 ≤ z.2∧((z.1.2 = []∧c.1.2 = []) ∨ (c.1.2 ≠ []∧z.1.2 = [c.1.2])):=by
 unfold cutsL at hc
 obtain ⟨z,hz,rfl⟩:=List.mem_map.1 hc
 obtain ⟨k1,_,k⟩:=wG (xO _ (Nat.le_refl _) h) z hz
 have hl:=jQ0 t h z hz
 refine ⟨z,hz,rfl,k,k1,?_⟩
 obtain ⟨⟨cr,tr⟩,n⟩:=z
 match tr,hl with
 | [],_ => exact .inl ⟨rfl,rfl⟩
 | [T],_ =>
  refine .inr ⟨fun e => ?_,rfl⟩
  have e:T = []:=e
  have:=(k.1 T (by simp)).1.pos
  rw [e] at this;simp at this
theorem antT_fuel:∀ (n m:Nat) {t:List Int},qW t→t.length ≤ n→t.length ≤ m→antT n t = antT m t:=by
 have key:∀ (k n m:Nat) (t:List Int),qW t→t.length ≤ k→t.length ≤ n→t.length ≤ m→antT n t = antT m t:=by
  intro k
  induction k with
  | zero => intro n m t h hk;have:=h.pos;omega
  | succ k ih =>
   intro n m t h hk hn hm
   have hp:=h.pos
   obtain ⟨n,rfl⟩:∃ n',n = n' + 1:=⟨n - 1,by omega⟩
   obtain ⟨m,rfl⟩:∃ m',m = m' + 1:=⟨m - 1,by omega⟩
   unfold antT
   congr 1
   have e:∀ c ∈ cutsL t,cutE (antT n) c = cutE (antT m) c:=fun c hc => by
    obtain ⟨z,hz,rfl,hg,_,h1⟩:=wP h hc
    unfold cutE
    rcases h1 with ⟨_,h1⟩|⟨h1,h2⟩
    ·rw [if_pos h1,if_pos h1]
    ·rw [if_neg h1,if_neg h1,antF_congr fun x hx => ?_]
     have hx':x ∈ z.1.1:=hx
     have a1:=jN hx'
     have a2:=hg.2
     have a3:qX z.1.2 = (cutS z).1.2.length:=by rw [h2];simp [qX]
     have a4:=hg.1 (cutS z).1.2 (by rw [h2];simp)
     have a5:=a4.1.pos
     exact ih n m x (hg.1 x (by simp [hx'])).1 (by omega) (by omega) (by omega)
   clear ih
   generalize cutsL t = C at e
   induction C with
   | nil => rfl
   | cons c C ihC => rw [List.flatMap_cons,List.flatMap_cons,e c (by simp),ihC fun x hx => e x (by simp [hx])]
 intro n m t h h1 h2
 exact key t.length n m t h (Nat.le_refl _) h1 h2
theorem wF_one (H:Spl→Int) (t:List Int):wF H [t] = ((split t).map fun s => H (nrmS s)).sum:=by
 have e1:prodS ([t].map split) = split t:=by
  show List.flatMap (fun s => (split t).map (catS s)) [([],[])] = _
  rw [List.flatMap_cons,List.flatMap_nil,List.append_nil]
  have:catS (([],[]):Spl) = id:=by funext s;rfl
  rw [this,List.map_id]
 unfold wF
 rw [e1]
end
section
def eF (f:List (List Int)):Nat:=(f.map fun t => t.length - 1).sum
theorem eF_app (f g:List (List Int)):eF (f ++ g) = eF f + eF g:=by simp [eF]
theorem eF_mul (f g:List (List Int)):eF (mulF f g) = eF f + eF g:=by
 rw [← eF_app]
 exact ((jR (c:=cmpT) (f ++ g)).map _).sum_nat
theorem eF_le (f:List (List Int)):eF f ≤ qX f:=by
 induction f with
 | nil => exact Nat.le_refl _
 | cons t f ih =>
  have h1:eF (t :: f) = (t.length - 1) + eF f:=by simp [eF]
  have h2:qX (t :: f) = t.length + qX f:=by simp [qX]
  omega
def pF (f:List (List Int)):Int:=((2 ^ eF f:Nat):Int)
theorem wF_scale (k:Int) (F:Spl→Int) (f:List (List Int)):wF (fun s => k * F s) f = k * wF F f:=by
 unfold wF
 induction prodS (f.map split) with
 | nil => simp
 | cons a L ih => rw [List.map_cons,List.sum_cons,ih,List.map_cons,List.sum_cons,Int.mul_add]
theorem wF_pow:∀ f,OkF f→wF (fun s => pF s.1) f = ((2 ^ qX f:Nat):Int):=by
 refine hopf_ind ?_ (fun g hg ih => ?_) (fun x y hx hy ihx ihy => ?_)
 ·rw [wF_nil];rfl
 ·refine (wF_root (fun s => pF s.1) hg.lev).trans ?_
  show wF (fun s => pF s.1) g + pF (rtF g) = _
  have e1:=rtF_sum hg
  have e2:eF (rtF g) = qX g:=by
   have e3:qX (rtF g) = (canon (qB g)).length:=by simp [rtF,qX]
   show (canon (qB g)).length - 1 + 0 = _
   omega
  rw [ih,e1]
  unfold pF
  rw [e2,Nat.pow_succ]
  omega
 ·refine (wF_mulF (fun s => pF s.1) x y).trans ?_
  have e:(fun s:Spl => wF (fun u => pF (mulS s u).1) y) = fun s:Spl => ((2 ^ qX y:Nat):Int) * pF s.1:=by
   funext s
   have e1:(fun u:Spl => pF (mulS s u).1) = fun u:Spl => pF s.1 * pF u.1:=by
    funext u
    show pF (mulF s.1 u.1) = _
    unfold pF
    rw [eF_mul,Nat.pow_add,Int.natCast_mul]
   rw [e1,wF_scale,ihy,Int.mul_comm]
  rw [e,wF_scale,ihx,mulF_sum,Nat.pow_add,Int.natCast_mul,Int.mul_comm]
theorem wF_sub (F G:Spl→Int) (f:List (List Int)):wF (fun s => F s - G s) f = wF F f - wF G f:=by
 unfold wF
 induction prodS (f.map split) with
 | nil => rfl
 | cons a L ih => simp only [List.map_cons,List.sum_cons,ih];omega
theorem qG0 (M:Elt):(sumS cmpF M).length ≤ M.length:=by
 have h:=addS_len M []
 rw [List.length_nil,Nat.zero_add] at h
 exact h
theorem prodLn (d e:Elt):(prodL d e).length = d.length * e.length:=by
 unfold prodL
 induction d with
 | nil => simp
 | cons p d ih => rw [List.flatMap_cons,List.length_append,List.length_map,ih,List.length_cons,Nat.succ_mul,Nat.add_comm]
theorem vO {g:List Int→Elt}:∀ (f:List (List Int)) (out:Elt),(∀ t ∈ f,(g t).length ≤ 2 ^ (t.length - 1))→(f.foldl (stepA g) out).length ≤ out.length * 2 ^ eF f
 | [],out,_ => by simp [eF]
 | t :: f,out,h => by
  rw [List.foldl_cons]
  refine Nat.le_trans (vO f _ fun x hx => h x (by simp [hx])) ?_
  have h1:(stepA g out t).length ≤ out.length * 2 ^ (t.length - 1):=by
   refine Nat.le_trans (qG0 _) ?_
   rw [prodLn]
   exact Nat.mul_le_mul_left _ (h t (by simp))
  have h2:eF (t :: f) = (t.length - 1) + eF f:=by simp [eF]
  rw [h2,Nat.pow_add,← Nat.mul_assoc]
  exact Nat.mul_le_mul_right _ h1
theorem wJ:∀ (n:Nat) (t:List Int),qW t→canon t = t→t.length ≤ n→(ant1 t).length ≤ 2 ^ (t.length - 1)
 | 0,t,h,_,hn => by have:=h.pos;omega
 | n + 1,t,h,hc,hn => by
  have hp:=h.pos
  obtain ⟨m,hm⟩:∃ m,t.length = m + 1:=⟨t.length - 1,by omega⟩
  have e0:ant1 t = sumS cmpF ((cutsL t).flatMap (cutE (antT m))):=by unfold ant1;rw [hm];rfl
  rw [e0]
  refine Nat.le_trans (qG0 _) ?_
  have ht:OkF [t]:=⟨fun x hx => by obtain rfl:=List.mem_singleton.1 hx;exact ⟨h,hc⟩,List.pairwise_singleton _ _⟩
  have h1:∀ z ∈ gathS (split t),(((cutE (antT m) (cutS z)).length:Nat):Int) ≤ z.2 * (if z.1.2 = [] then 0 else pF z.1.1):=fun z hz => by
   obtain ⟨_,_,_,hg,hz1,_⟩:=wP h (c:=cutS z) (List.mem_map.2 ⟨z,hz,rfl⟩)
   obtain ⟨k1,_,hgz⟩:=wG (xO _ (Nat.le_refl _) h) z hz
   have htr:=jQ0 t h z hz
   obtain ⟨⟨cr,tr⟩,k⟩:=z
   simp only at hgz htr k1 ⊢
   match tr,htr,hgz with
   | [],_,_ =>
    unfold cutE
    rw [if_pos (show (cutS ((cr,[]),k)).1.2 = [] from rfl),if_pos rfl]
    simp
   | [T],_,hgz =>
    have hT:=hgz.1 T (by simp)
    have hTp:=hT.1.pos
    have hTn:T ≠ []:=fun e => by rw [e] at hTp;simp at hTp
    unfold cutE
    rw [if_neg (show ¬ (cutS ((cr,[T]),k)).1.2 = [] from hTn),if_neg (by simp)]
    have a3:qX [T] = T.length:=by simp [qX]
    have a2:qX cr + qX [T] = t.length:=hgz.2
    have hlen:(sumS cmpF (prodL (antF (antT m) cr) [(mP (-k),[T])])).length ≤ 2 ^ eF cr:=by
     refine Nat.le_trans (qG0 _) ?_
     rw [prodLn,List.length_singleton,Nat.mul_one]
     refine Nat.le_trans (vO cr [(1,[])] fun x hx => ?_) (by simp)
     have hx1:=hgz.1 x (by simp [hx])
     have hx2:=jN hx
     have e1:antT m x = ant1 x:=antT_fuel _ _ hx1.1 (by omega) (Nat.le_refl _)
     rw [e1]
     exact wJ n x hx1.1 hx1.2 (by omega)
    have h2:(((sumS cmpF (prodL (antF (antT m) cr) [(mP (-k),[T])])).length:Nat):Int) ≤ pF cr:=by
     unfold pF;exact Int.ofNat_le.2 hlen
    have h3:0 ≤ pF cr:=by unfold pF;exact Int.natCast_nonneg _
    have h4:1 * pF cr ≤ k * pF cr:=Int.mul_le_mul_of_nonneg_right k1 h3
    refine Int.le_trans h2 ?_
    omega
  have h2:((((cutsL t).flatMap (cutE (antT m))).length:Nat):Int) ≤ ((gathS (split t)).map fun z => z.2 * (if z.1.2 = [] then 0 else pF z.1.1)).sum:=by
   have e1:cutsL t = (gathS (split t)).map cutS:=rfl
   rw [e1]
   generalize gathS (split t) = Z at h1
   induction Z with
   | nil => simp
   | cons z Z ih =>
    rw [List.map_cons,List.flatMap_cons,List.length_append,List.map_cons,List.sum_cons,Int.natCast_add]
    have a1:=h1 z (by simp)
    have a2:=ih fun x hx => h1 x (by simp [hx])
    omega
  have h3:((gathS (split t)).map fun z => z.2 * (if z.1.2 = [] then 0 else pF z.1.1)).sum = wF (fun s => if s.2 = [] then 0 else pF s.1) [t] :=
   (gath_lin (fun s => if s.2 = [] then 0 else pF s.1) (split t)).trans (wF_one (fun s => if s.2 = [] then 0 else pF s.1) t).symm
  have h4:wF (fun s => if s.2 = [] then 0 else pF s.1) [t] = wF (fun s => pF s.1) [t] - wF (fun s => if s.2 = [] then pF s.1 else 0) [t]:=by
   rw [← wF_sub]
   congr 1
   funext s
   split <;> omega
  have h5:=wF_pow [t] ht
  have h6:=counit2 [t] ht pF
  have e5:qX [t] = t.length:=by simp [qX]
  have e6:pF [t] = ((2 ^ (t.length - 1):Nat):Int):=by unfold pF;simp [eF]
  rw [e5,hm,Nat.pow_succ] at h5
  rw [e6,hm,Nat.add_sub_cancel] at h6
  rw [h3,h4,h5,h6] at h2
  rw [hm,Nat.add_sub_cancel]
  omega
def GdA (m:Nat) (L:Elt):Prop:=∀ q ∈ L,(0 ≤ q.1∧q.1 < 10007)∧(∀ t ∈ q.2,1 ≤ t.length)∧qX q.2 = m
theorem GdA.prod {d e:Elt} {m k:Nat} (hd:GdA m d) (he:GdA k e):GdA (m + k) (prodL d e):=fun q hq => by
 unfold prodL at hq
 obtain ⟨p,hp,hq⟩:=List.mem_flatMap.1 hq
 obtain ⟨r,hr,rfl⟩:=List.mem_map.1 hq
 obtain ⟨_,a2,a3⟩:=hd p hp
 obtain ⟨_,b2,b3⟩:=he r hr
 refine ⟨xU _,fun t ht => ?_,?_⟩
 ·rcases List.mem_append.1 (yG.1 ht) with h|h
  ·exact a2 t h
  ·exact b2 t h
 ·show qX (mulF p.2 r.2) = _
  rw [mulF_sum,a3,b3]
theorem GdA.sum {L:Elt} {m:Nat} (h:GdA m L):GdA m (sumS cmpF L):=fun q hq => by
 have hn:=(sumS_nf xL (M:=L) fun q hq => (h q hq).1).2 q hq
 obtain ⟨p,hp,e⟩:=sumS_mem hq
 rw [← e]
 exact ⟨by omega,(h p hp).2⟩
theorem GdA.fold {g:List Int→Elt}:∀ {f:List (List Int)} {out:Elt} {m:Nat},(∀ t ∈ f,GdA t.length (g t))→GdA m out→GdA (m + qX f) (f.foldl (stepA g) out)
 | [],out,m,_,h => by simpa [qX] using h
 | t :: f,out,m,hg,h => by
  rw [List.foldl_cons,show m + qX (t :: f) = (m + t.length) + qX f by simp [qX,Nat.add_assoc]]
  exact GdA.fold (fun x hx => hg x (by simp [hx])) (GdA.sum (h.prod (hg t (by simp))))
theorem gd_one:GdA 0 [(1,[])]:=fun q hq => by
 obtain rfl:=List.mem_singleton.1 hq
 exact ⟨by decide,(fun t ht => by cases ht),rfl⟩
theorem vR:∀ (n:Nat) {t:List Int},qW t→t.length ≤ n→GdA t.length (antT n t)
 | 0,t,h,hn => by have:=h.pos;omega
 | n + 1,t,h,hn => by
  unfold antT
  refine GdA.sum fun q hq => ?_
  obtain ⟨c,hc,hq⟩:=List.mem_flatMap.1 hq
  obtain ⟨z,hz,rfl,hg,_,h1⟩:=wP h hc
  unfold cutE at hq
  rcases h1 with ⟨_,h1⟩|⟨h1,h2⟩
  ·rw [if_pos h1] at hq;cases hq
  ·rw [if_neg h1] at hq
   have a2:=hg.2
   have a3:qX z.1.2 = (cutS z).1.2.length:=by rw [h2];simp [qX]
   have a4:=hg.1 (cutS z).1.2 (by rw [h2];simp)
   have a5:=a4.1.pos
   have hc1:GdA (qX z.1.1) (antF (antT n) z.1.1):=by
    have:=GdA.fold (g:=antT n) (f:=z.1.1) (out:=[(1,[])]) (m:=0) (fun x hx => vR n (hg.1 x (by simp [hx])).1 (by have:=jN hx;omega)) gd_one
    rw [Nat.zero_add] at this
    exact this
   have hc2:GdA (cutS z).1.2.length [(mP (-(cutS z).2),[(cutS z).1.2])]:=fun q hq => by
    obtain rfl:=List.mem_singleton.1 hq
    exact ⟨xU _,fun t ht => by obtain rfl:=List.mem_singleton.1 ht;exact a5,by simp [qX]⟩
   have:=GdA.sum (hc1.prod hc2)
   rw [← a3,a2] at this
   exact this q hq
theorem GdA.sz {L:Elt} {m:Nat} (h:GdA m L) (hm:m ≤ 8):∀ q ∈ L,(0 ≤ q.1∧q.1 < 10007)∧q.2.length ≤ 9∧qX q.2 ≤ 50:=fun q hq => by
 obtain ⟨h1,h2,h3⟩:=h q hq
 refine ⟨h1,?_,by omega⟩
 have:q.2.length ≤ qX q.2:=by
  generalize q.2 = f at h2
  clear h3
  induction f with
  | nil => exact Nat.le_refl _
  | cons t f ih =>
   have a1:=h2 t (by simp)
   have a2:=ih fun x hx => h2 x (by simp [hx])
   have a3:qX (t :: f) = t.length + qX f:=by simp [qX]
   rw [List.length_cons]
   omega
 omega
end
section
def fIdx {α:Type} (p:α→Bool):List α→Option Nat
 | [] => none
 | x :: xs => if p x then some 0 else (fIdx p xs).map (· + 1)
def idxI (o:Option Nat):Int:=match o with|some i => i|none => -1
theorem jL0 {α:Type} {p:α→Bool}:∀ {xs:List α},fIdx p xs = none ↔ ∀ x ∈ xs,p x = false
 | [] => by simp [fIdx]
 | x :: xs => by
  unfold fIdx
  by_cases h:p x = true
  ·simp [h]
  ·have h':p x = false:=by simpa using h
   simp only [h,Bool.false_eq_true,if_false,Option.map_eq_none_iff,jL0 (xs:=xs)]
   simp [h']
theorem fIdx_some {α:Type} {p:α→Bool}:∀ {xs:List α} {i:Nat},fIdx p xs = some i→∃ h:i < xs.length,p xs[i] = true∧∀ x ∈ xs.take i,p x = false
 | x :: xs,i,h => by
  unfold fIdx at h
  by_cases hx:p x = true
  ·rw [if_pos hx] at h;cases h
   exact ⟨by simp,hx,by simp⟩
  ·rw [if_neg hx] at h
   obtain ⟨j,hj,rfl⟩:=map_some h
   obtain ⟨h1,h2,h3⟩:=fIdx_some hj
   refine ⟨by simpa using h1,h2,fun y hy => ?_⟩
   rw [List.take_succ_cons,List.mem_cons] at hy
   rcases hy with rfl|hy
   ·simpa using hx
   ·exact h3 y hy
theorem fIdx_at {α:Type} {p:α→Bool}:∀ {xs:List α} {i:Nat} (h:i < xs.length),p xs[i] = true→(∀ x ∈ xs.take i,p x = false)→fIdx p xs = some i
 | x :: xs,0,_,h1,_ => by
  have h1:p x = true:=h1
  unfold fIdx;rw [if_pos h1]
 | x :: xs,i + 1,h,h1,h2 => by
  unfold fIdx
  have hx:p x = false:=h2 x (by simp)
  rw [if_neg (by simp [hx]),fIdx_at (xs:=xs) (i:=i) (by simpa using h) h1 (fun y hy => h2 y (by simp [hy]))]
  rfl
def keepF {α:Type} (p:α→Bool) (xs:List α):List α:=xs.filter fun x => !p x
end
end Go.Proofs.YtedgfkpfhonlpaaGreat
