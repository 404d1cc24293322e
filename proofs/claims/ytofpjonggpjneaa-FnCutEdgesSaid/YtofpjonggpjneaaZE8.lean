/- Lemmas (8). -/
import Derived.Test.YtofpjonggpjneaaZE0
import Derived.Test.YtofpjonggpjneaaZE1
import Derived.Test.YtofpjonggpjneaaZE2
import Derived.Test.YtofpjonggpjneaaZE3
import Derived.Test.YtofpjonggpjneaaZE6
import Derived.Test.YtofpjonggpjneaaZE7
set_option linter.unusedSimpArgs false
set_option linter.unusedVariables false
namespace Go.Proofs.Ytofpjonggpjneaa
open Go.RowKit
set_option maxRecDepth 100000 in
set_option maxHeartbeats 400000 in
theorem c_slicesCloneInt (v:Value) (xs:List Int) (w:World) (h:Rd (RS RI) w [v] xs) (hsz:xs.length ≤ 1000000000) :
  Calls Try.prog 166 #[v] w (RetO (RS RI) w xs):=by
 obtain ⟨oa,c1,I1⟩:=h.ints
 obtain rfl:=I1.val
 have m1:=I1.le;have m2:=I1.capLe
 unfold maxLen at m2
 have q22:∀ (w:World) (a:Option Addr) (n c n' c':Nat),(binOp .eql 108 (.slice a n c) (.slice none n' c')).run Try.prog w = .ok (.bool a.isNone) w:=fun w a n c n' c' => Lib.run_eql_slice_nil w _ _ a n c n' c' tInt.ht
 cases oa with
 | none =>
  have hc:=I1.noneCap rfl
  have hx:xs = []:=List.eq_nil_of_length_eq_zero (by omega)
  subst hx;subst hc
  clear h I1
  go_enter Try.func166,Try.ntmps166
  go_wp2_with fail
  go_ret
  exact ⟨_,rfl,Own.nil _ _,Below.refl _ _⟩
 | some ad =>
 have I2:Ints (w.alloc (.cells #[] 3)) (.slice (some ad) xs.length c1) xs (some ad) c1:=by
  refine ⟨rfl,m1,I1.capLe,I1.noneCap,I1.bd,?_⟩
  rcases I1.row with h|⟨b,off,e,hb,hc⟩
  ·exact .inl h
  ·refine .inr ⟨b,off,e,by simp;omega,fun j hj => ?_⟩
   rw [World.cell?_alloc_lt _ _ _ hb];exact hc j hj
 have hrow:=Row.lit w #[] 3 1 0 (by decide) (by simp)
 have HI:=Lib.hid I2
 have HR:=Lib.hid hrow
 clear I2 hrow
 go_enter Try.func166,Try.ntmps166
 go_wp2_with (at_builtin;refine StopAt (o:=⟨some 7,_,_,_,_,_⟩) ?_)
 refine Stop.go ?_
 refine wpList_appendS rfl _ _ 108 rfl 3 (.int .i64 0) 1 8 tInt (.slice (some ⟨w.heap.size,0,none⟩) 0 0) 0 [] (some w.heap.size) rfl (by simpa using HR.out) (some ad) xs.length c1 (xs.map (Value.int .i64)) rfl (by simp) (fun h => by cases h) (Row.cells_ints HI.out) (by intro u hu;obtain ⟨x,_,rfl⟩:=List.mem_map.1 hu;rfl) (by omega) (by unfold maxLen;omega) ?_
 intro v' w' og' happ
 rw [Nat.zero_add,List.nil_append] at happ
 have hlow:=happ.low (B:=w.heap.size) (by simp) (fun g hg => by cases hg;exact Nat.le_refl _)
 have hbel:Below w.heap.size w w':=((Below.refl w.heap.size w).alloc (Nat.le_refl _) (.cells #[] 3)).trans hlow.2
 have hown:Own (RS RI) w.heap.size w'.heap.size w' [v'] xs:=Row.OwnI (by simpa using happ.1) I1.bd hlow.1
 have HO:=Lib.hid hown
 obtain ⟨oa',cap',rfl,_⟩:=hown.val
 clear hown happ hlow
 go_wp2_with fail
 go_ret
 exact ⟨_,rfl,HO.out,hbel⟩
theorem shareKey {A B C D E:Type} {goal:Prop} (FACTS:A→B→C→D→E→Prop) {G:A→B→C→D→E→Prop} (use:(∀ a b c d e,FACTS a b c d e→G a b c d e)→goal) (key:∀ a b c d e,FACTS a b c d e→G a b c d e):goal:=use key
theorem moved_take (base:Nat) (xs:List Int) (k:Nat) (h:k < xs.length):(xs.take (k + 1)).map (fun x => (base:Int) + x) = (xs.take k).map (fun x => (base:Int) + x) ++ [(base:Int) + xs[k]]:=by
 rw [List.take_succ_eq_append_getElem h,List.map_append];rfl
set_option maxRecDepth 100000 in
set_option maxHeartbeats 20000000 in
theorem c_impl_grafted (vu vn vl:Value) (u:List Int) (nodes:List Int) (list:List (List Int)) (w:World) (hu:Rd (RS RI) w [vu] u) (hn:Rd (RS RI) w [vn] nodes) (hl:Rd (RS (RS RI)) w [vl] list)
  (hu8:lev8 u = true) (hl8:∀ v ∈ list,lev8 v = true) (hnl:nodes.length = list.length) (hnb:∀ x ∈ nodes,0 ≤ x∧x < u.length) (hsum:u.length + sumLen list ≤ 8) (hok:graftOk u nodes list = true) :
  Calls Try.prog 116 #[vu,vn,vl] w (RetO (RS RI) w (graftN u nodes list)):=by
 have hupos:=(lev8_lev hu8).pos
 have hne:=c_impl_nearOf vu u w hu hu8
 unfold graftOk at hok
 rw [Bool.and_eq_true] at hok
 have hTF:∀ (W:World) (v:Value),Rd (RS (RS RI)) W [v] (graftTo u nodes list list.length)→Calls Try.prog 168 #[v,.int .i64 0,.int .i64 (-1)] W (RetO (RS RI) W (graftN u nodes list)):=fun W v r =>
  c_impl_treeFrom 9 v _ 0 (-1) W r hok.1 (Nat.le_of_ble_eq_true hok.2)
 have HTF:=Lib.hid hTF
 obtain ⟨oa,c1,rfl,m1,m2⟩:=hu.val
 obtain ⟨on,cn,IN⟩:=hn.ints
 obtain rfl:=IN.val
 obtain ⟨ol,cl,LL⟩:=hl.lists
 obtain rfl:=LL.val
 have k1:=IN.le;have k2:=IN.capLe;have k3:=LL.le;have k4:=LL.capLe
 unfold maxLen at k2
 have HIN:=Lib.hid IN
 have HLL:=Lib.hid LL
 have HL8:=Lib.hid hl8
 have HNB:=Lib.hid hnb
 have HNL:=Lib.hid hnl
 have HSUM:=Lib.hid hsum
 have hGL:=fun i hi => graftTo_len u nodes list i hi
 have HGL:=Lib.hid hGL
 have HLEN:Hid (list.length ≤ 8):=Lib.hid (by
  have:=len_le_sumLen list (fun b hb => lev8_lev (hl8 b hb))
  omega)
 obtain ⟨ll,hll⟩:∃ ll,ll = list.length:=⟨_,rfl⟩
 rw [← hll] at k3 HTF
 rw [← hll]
 have HLN:=Lib.hid hll
 have HEACH:=Lib.hid (graftTo_each (u:=u) (nodes:=nodes) (list:=list) (by omega) (fun v hv => lev8_len (hl8 v hv)))
 clear hu hn hl IN LL hl8 hnl hnb hsum hok hTF hGL hll
 go_enter Try.func116,Try.ntmps116
 go_wp2_with fail
 refine hne.mono ?_
 rintro e w1 ⟨u1,rfl,o1,b1⟩
 obtain ⟨F1,oF1,hF1⟩:=OwnF.of o1
 obtain ⟨o1a,c1a,rfl,_⟩:=o1.val
 have HO1:=Lib.hid oF1
 have HF1:=Lib.hid hF1
 clear o1 hne oF1 hF1
 go_wp2_with fail
 go_loopw [7,20] (fun nr i wr => ∃ (k:Nat) (F:List Nat) (near:List (List Int)),k ≤ ll∧i = .int .i64 k∧Hid (near = graftTo u nodes list k)∧(∃ oa cap,nr = .slice oa near.length cap)∧Hid (OwnF (RS (RS RI)) F wr [nr] near)∧Hid (∀ b,b ∈ F→w.heap.size ≤ b)∧Below w.heap.size w wr) (fun _ i _ => ll - (intOf i).toNat)
 case atStart => exact ⟨0,F1,nears u,Nat.zero_le _,rfl,Lib.hid rfl,⟨_,_,rfl⟩,HO1.out,Lib.hid (fun b hb => (HF1.out b hb).1),b1⟩
 case round =>
  obtain ⟨k,F,near,hk,rfl,hnear,⟨o2,c2,rfl⟩,hown,hF,hbel⟩:=hrel
  clear HO1
  obtain ⟨wo,hwo⟩:∃ wo:World,wo = wr:=⟨_,rfl⟩
  subst hwo
  have hsz1:=hbel.size
  by_cases hlt:k < ll
  ·have hlt2:k < list.length:=by rw [← HLN.out];exact hlt
   have hltn:k < nodes.length:=by rw [HNL.out];exact hlt2
   obtain ⟨bl,fl,rfl,hbl,hcl⟩:=HLL.out.get hlt2
   obtain ⟨oi,ci,g1,hrd,q1,q2⟩:=hcl k hlt2
   have g2:wo.cell? ⟨bl,fl + k,none⟩ = some (.slice oi list[k].length ci):=(hbel.cell (p:=⟨bl,fl + k,none⟩) hbl).trans g1
   obtain ⟨bn,fn,rfl,hbn,hcn⟩:=HIN.out.get hltn
   have gn:=hcn k hltn
   have hv8:=HL8.out list[k] (List.getElem_mem hlt2)
   have hvn:=c_impl_nearOf (.slice oi list[k].length ci) list[k] wo (hrd.below hbel (Nat.le_refl _)) hv8
   have hnd:=HNB.out nodes[k] (List.getElem_mem hltn)
   have hgl:=HGL.out k (by omega)
   rw [← hnear.out] at hgl
   have hss:=sumLen_take_succ list k hlt2
   have hsl:=sumLen_take list (k + 1)
   have hgs:graftTo u nodes list (k + 1) = graft1 near nodes[k] list[k]:=by rw [graftTo,← hnear.out];congr 1 <;> simp [hltn,hlt2]
   have hnbd:=nearTo_bd list[k] list[k].length (Nat.le_refl _)
   have hnel:=nearTo_each list[k] list[k].length
   have hnvl:(nears list[k]).length = list[k].length:=nearTo_len _ _
   have hvl8:=lev8_len hv8
   obtain ⟨x,hx⟩:∃ x,x = list[k]'hlt2:=⟨_,rfl⟩
   obtain ⟨nd,hnd'⟩:∃ nd,nd = nodes[k]'hltn:=⟨_,rfl⟩
   rw [← hx] at g2 q1 hvn hss hgs hnbd hnel hnvl hvl8
   rw [← hnd'] at gn hnd hgs
   have hsum:=HSUM.out
   have hnn:near.length + x.length ≤ 8:=by omega
   obtain ⟨n0,n1⟩:=hnd
   obtain ⟨nq,rfl⟩:∃ nq:Nat,nd = nq:=⟨nd.toNat,by omega⟩
   have hnq:nq < near.length:=by omega
   have HGS:=Lib.hid hgs
   have HNBD:=Lib.hid hnbd
   have HNEL:=Lib.hid hnel
   have hxl:=hnvl
   obtain ⟨nvs,hnvs⟩:∃ nvs,nvs = nears x:=⟨_,rfl⟩
   change ∀ y ∈ nears x,_ at hnbd
   have HNV0:Hid (∀ y ∈ nvs,y.length ≤ 16∧∀ z ∈ y,0 ≤ z∧z < 8):=Lib.hid (by
    intro y hy
    rw [hnvs] at hy
    refine ⟨by have:=HNEL.out y hy;omega,fun z hz => ?_⟩
    have:=HNBD.out y hy z hz
    omega)
   rw [← hnvs] at hvn hxl
   have HXL:=Lib.hid hxl
   have HNVS:=Lib.hid hnvs
   have HOW:=hown
   have hFl:=hown.out.lt
   have hnd0:=hown.out.2
   have hnb:near.length ≤ 8:=by omega
   clear hcl hcn g1 hrd hx hnd' hgl hss hsl hgs hnbd hnel hnvl hv8 hsum hxl hnvs
   go_wp2_with fail
   refine hvn.mono ?_
   rintro e w2 ⟨u2,rfl,o3,b3⟩
   obtain ⟨ov,cv,rfl,v1,v2⟩:=o3.val
   have HNV:=Lib.hid o3
   rw [HXL.out] at v1
   rw [HXL.out]
   have HO2:Hid (OwnF (RS (RS RI)) F w2 [.slice o2 near.length c2] near):=Lib.hid (HOW.out.frame (fun b hb => b3.block b (hFl b hb)))
   have s3:=b3.size
   have hbel2:=hbel.trans (b3.mono hsz1)
   obtain ⟨base,hbase⟩:∃ base,base = near.length:=⟨_,rfl⟩
   rw [← hbase]
   have HBASE:=Lib.hid hbase
   rw [← hbase] at hnn hnq hnb HO2 HOW hown
   clear o3 hvn hbase
   go_wp2_with fail
   go_loopw [7,30] (fun nr i wz => ∃ (q:Nat) (F':List Nat) (z:List (List Int)),q ≤ x.length∧i = .int .i64 q∧Hid (z = near ++ addTo base nvs nq q)∧Hid (z.length = base + q)∧(∃ oa cap,nr = .slice oa z.length cap)∧Hid (OwnF (RS (RS RI)) F' wz [nr] z)∧Hid (∀ b,b ∈ F'→b ∈ F ∨ w2.heap.size ≤ b)∧Hid (ChgF F w2 wz)) (fun _ i _ => x.length - (intOf i).toNat)
   case atStart => exact ⟨0,F,near,Nat.zero_le _,rfl,Lib.hid (by simp [addTo]),Lib.hid HBASE.out.symm,⟨_,_,by rw [← HBASE.out]⟩,Lib.hid HO2.out,Lib.hid (fun b hb => .inl hb),Lib.hid (ChgF.refl _ _)⟩
   case round =>
    obtain ⟨q,F',z,hq,rfl,hz,hzl,⟨o4,c4,rfl⟩,hown4,hF4,hch4⟩:=hrel
    obtain ⟨wz,hwz⟩:∃ wz:World,wz = wr:=⟨_,rfl⟩
    subst hwz
    have hzlt:=hown4.out.lt
    have s4:=hch4.out.size
    have hbz:Below w.heap.size w wz:=hbel2.trans (hch4.out.below (by omega) hF.out)
    have hszz:=hbz.size
    by_cases hlq:q < x.length
    ·have HNZ:Own (RS (RS RI)) wo.heap.size w2.heap.size wz [.slice ov x.length cv] nvs:=by
      have:=HNV.out.frame (w':=wz) (fun b h1 h2 => hch4.out.block b h2 (fun hm => by have:=hFl b hm;omega))
      rw [HXL.out] at this
      exact this
     obtain ⟨oaz,caz,LZ⟩:=HNZ.rd.lists
     have hvz:=LZ.val
     simp only [Value.slice.injEq] at hvz
     obtain ⟨rfl,hvz2,rfl⟩:=hvz
     clear hvz2
     have hlq2:q < nvs.length:=by rw [HXL.out];exact hlq
     obtain ⟨bv,fv,rfl,hbv,hcv⟩:=LZ.get hlq2
     obtain ⟨oy,cy,g3,hry,y1,y2⟩:=hcv q hlq2
     have hyb:=HNV0.out nvs[q] (List.getElem_mem hlq2)
     have hgd:nvs.getD q [] = nvs[q]:=by simp [hlq2]
     have had:addTo base nvs nq (q + 1) = addTo base nvs nq q ++ [movedL base q (nvs.getD q []) nq]:=rfl
     rw [hgd] at had
     obtain ⟨y,hy⟩:∃ y,y = nvs[q]'hlq2:=⟨_,rfl⟩
     rw [← hy] at g3 hry y1 hyb had
     obtain ⟨oy2,cy2,IY⟩:=hry.ints
     have hvy:=IY.val
     simp only [Value.slice.injEq,true_and] at hvy
     obtain ⟨rfl,rfl⟩:=hvy
     obtain ⟨hyl,hye⟩:=hyb
     have HIY:=Lib.hid IY
     have HYE:=Lib.hid hye
     have HAD:=Lib.hid had
     have HZB:Hid (z.length ≤ 8):=Lib.hid (by rw [hzl.out];omega)
     have gnz:wz.cell? ⟨bn,fn + k,none⟩ = some (.int .i64 (nq:Int)):=(hbz.cell (p:=⟨bn,fn + k,none⟩) hbn).trans gn
     have iq1:(0:Int) ≤ (q:Int):=by omega
     have iq2:(q:Int) < (x.length:Int):=by omega
     clear HNZ LZ hcv hry hy IY hye had hgd hlq2
     go_wp2_with fail
     go_loopw [13,38] (fun o i ww => ∃ (r:Nat) (zz:List Int),r ≤ y.length∧i = .int .i64 r∧Hid (zz = (y.take r).map (fun x => (base:Int) + x))∧Hid (zz.length = r)∧(∃ oa cap,o = .slice oa zz.length cap)∧Hid (Own (RS RI) wz.heap.size ww.heap.size ww [o] zz)∧Below wz.heap.size wz ww) (fun _ i _ => y.length - (intOf i).toNat)
     case atStart => exact ⟨0,[],Nat.zero_le _,rfl,Lib.hid rfl,Lib.hid rfl,⟨_,_,rfl⟩,Lib.hid ((Own.empty (R:=RI) (w:=wz) 3 wz.heap.size (Nat.le_refl _)).top _ (by simp)),(Below.refl _ _).alloc (Nat.le_refl _) _⟩
     case round =>
      obtain ⟨r,zz,hr,rfl,hzz,hzzl,⟨o5,c5,rfl⟩,hown5,hbel5⟩:=hrel
      obtain ⟨ww,hww⟩:∃ ww:World,ww = wr:=⟨_,rfl⟩
      subst hww
      have s5:=hbel5.size
      by_cases hlr:r < y.length
      ·obtain ⟨by',fy,rfl,hby,hcy⟩:=HIY.out.get hlr
       have g4:ww.cell? ⟨by',fy + r,none⟩ = some (Value.int .i64 y[r]):=(hbel5.cell (p:=⟨by',fy + r,none⟩) hby).trans (hcy r hlr)
       have hme:=HYE.out y[r] (List.getElem_mem hlr)
       have hnx:=moved_take base y r hlr
       obtain ⟨ye,hye⟩:∃ ye:Int,ye = y[r]'hlr:=⟨_,rfl⟩
       rw [← hye] at g4 hme hnx
       obtain ⟨e1',e2'⟩:=hme
       have hw1:IntKind.i64.wrap ((base:Int) + ye) = (base:Int) + ye:=IntWalk.i64_in _ (by omega)
       have HNX:=Lib.hid hnx
       have hzb5:zz.length ≤ 16:=by rw [hzzl.out];omega
       have ir1:(0:Int) ≤ (r:Int):=by omega
       have ir2:(r:Int) < (y.length:Int):=by omega
       clear hcy hye hnx
       go_wp2_with (at_builtin;refine StopAt (o:=⟨some 47,_,_,_,_,_⟩) ?_)
       refine Stop.go ?_
       refine wpList_snoc (w:=ww) (R:=RI) rfl _ _ 108 rfl 3 (.int .i64 0) 1 8 tInt rfl (.slice o5 zz.length c5) zz ((base:Int) + ye) [.int .i64 ((base:Int) + ye)] wz.heap.size ww.heap.size ww.heap.size rfl hown5.out (Own.int ⟨by omega,by omega⟩) (Nat.le_refl _) s5 3 rfl rfl (by omega) (by omega) ?_
       intro oa6 cap6 w6 hown6 _ _ hbel6
       have hb6:=hbel5.trans hbel6
       obtain ⟨zz',hzz'⟩:∃ zz',zz' = zz ++ [(base:Int) + ye]:=⟨_,rfl⟩
       have HZZ:Hid (zz' = (y.take (r + 1)).map (fun x => (base:Int) + x)):=Lib.hid (by rw [hzz',HNX.out,hzz.out])
       have e1:zz.length + 1 = zz'.length:=by rw [hzz'];simp
       have HZZL:Hid (zz'.length = r + 1):=Lib.hid (by rw [← e1,hzzl.out])
       rw [← hzz',e1] at hown6
       have HO6:Hid (Own (RS RI) wz.heap.size w6.heap.size w6 [.slice oa6 zz'.length cap6] zz'):=hown6
       rw [e1]
       clear hown6 hbel6 hown5 e1 hzz'
       go_wp2_with fail
       go_roundw
       case rel => exact ⟨r + 1,zz',by omega,by go_num,HZZ,HZZL,⟨_,_,rfl⟩,HO6,hb6⟩
       case measure => simp [intOf] <;> omega
      ·have hmv:zz = y.map (fun x => (base:Int) + x):=by rw [hzz.out,List.take_of_length_le (by omega)]
       have HMV:=Lib.hid hmv
       have hzb5:zz.length ≤ 16:=by rw [hzzl.out];omega
       have gnw:ww.cell? ⟨bn,fn + k,none⟩ = some (.int .i64 (nq:Int)):=((hbz.trans (hbel5.mono hszz)).cell (p:=⟨bn,fn + k,none⟩) hbn).trans gn
       have hbm1:=HZB.out
       have iz1:(0:Int) ≤ (k:Int):=by omega
       have iz2:(k:Int) < (nodes.length:Int):=by omega
       have fin:∀ (mv:List Int) (om:Option Addr) (cm:Nat) (w7:World),mv = movedL base q y nq→Own (RS RI) wz.heap.size w7.heap.size w7 [.slice om mv.length cm] mv→Below wz.heap.size wz w7 →
         ∃ G,OwnF (RS RI) G w7 [.slice om mv.length cm] mv∧(∀ b,b ∈ G→b ∉ F')∧OwnF (RS (RS RI)) F' w7 [.slice o4 z.length c4] z∧(∀ b,b ∈ G→w2.heap.size ≤ b):=by
        intro mv om cm w7 _ hm hb7
        obtain ⟨G,hG,hGb⟩:=OwnF.of hm
        exact ⟨G,hG,fun b hb hm => by have:=(hGb b hb).1;have:=hzlt b hm;omega,hown4.out.frame (fun b hb => hb7.block b (hzlt b hb)),fun b hb => by have:=(hGb b hb).1;omega⟩
       have FIN:=Lib.hid fin
       clear hmv fin
       by_cases hq0:q = 0
       ·subst hq0
        have hqe:(((0:Nat):Int) == 0) = true:=rfl
        go_wp2_with (at_builtin;refine StopAt (o:=⟨some 57,_,_,_,_,_⟩) ?_)
        refine Stop.go ?_
        refine wpList_snoc (w:=ww) (R:=RI) rfl _ _ 108 rfl 3 (.int .i64 0) 1 8 tInt rfl (.slice o5 zz.length c5) zz (nq:Int) [.int .i64 (nq:Int)] wz.heap.size ww.heap.size ww.heap.size rfl hown5.out (Own.int ⟨by omega,by omega⟩) (Nat.le_refl _) s5 3 rfl rfl (by omega) (by omega) ?_
        intro om cm w7 hown6 _ _ hbel6
        have hb7:=hbel5.trans hbel6
        obtain ⟨mv,hmv⟩:∃ mv,mv = zz ++ [(nq:Int)]:=⟨_,rfl⟩
        have HMD:Hid (mv = movedL base 0 y nq):=Lib.hid (by rw [hmv,HMV.out];simp [movedL])
        have e1:zz.length + 1 = mv.length:=by rw [hmv];simp
        rw [← hmv,e1] at hown6
        rw [e1]
        obtain ⟨G,hG,hGd,hZ,hGb⟩:=FIN.out mv om cm w7 HMD.out hown6 hb7
        have HG:=Lib.hid hG
        have HGD:=Lib.hid hGd
        have HZ:=Lib.hid hZ
        have HGB:=Lib.hid hGb
        clear hown6 hbel6 hown5 e1 hmv hG hGd hZ hGb
        go_wp2_with (at_builtin;refine StopAt (o:=⟨some 61,_,_,_,_,_⟩) ?_)
        refine Stop.go ?_
        refine wpList_snocF (w:=w7) (R:=RS RI) rfl _ _ 146 rfl 108 (.slice none 0 0) 1 24 tIntS rfl (.slice o4 z.length c4) z mv [.slice om mv.length cm] F' G rfl HZ.out HG.out HGD.out 108 rfl rfl (by omega) (by omega) ?_
        intro oa8 cap8 w8 F8 hown8 _ _ hF8 hch8
        obtain ⟨z',hz'⟩:∃ z',z' = z ++ [mv]:=⟨_,rfl⟩
        have HZ':Hid (z' = near ++ addTo base nvs nq (0 + 1)):=Lib.hid (by rw [hz',hz.out,HAD.out,← HMD.out,List.append_assoc])
        have e2:z.length + 1 = z'.length:=by rw [hz'];simp
        have HZL':Hid (z'.length = base + (0 + 1)):=Lib.hid (by have:=hzl.out;omega)
        have s7:=hb7.size
        have HF8:Hid (∀ b,b ∈ F8→b ∈ F ∨ w2.heap.size ≤ b):=Lib.hid (fun b hb => by
         rcases hF8 b hb with h|h|h
         ·exact hF4.out b h
         ·exact .inr (HGB.out b h)
         ·right;omega)
        have HCH:Hid (ChgF F w2 w8):=Lib.hid ((hch4.out.trans (Below.chgF hb7)).trans' hch8 (fun x hx => hF4.out x hx))
        rw [← hz',e2] at hown8
        have HO8:=Lib.hid hown8
        rw [e2]
        clear hown8 hF8 hch8 e2 hz'
        go_wp2_with fail
        go_roundw
        case rel => exact ⟨0 + 1,F8,z',by omega,by first|go_num|rfl,HZ',HZL',⟨_,_,rfl⟩,HO8,HF8,HCH⟩
        case measure => simp [intOf] <;> omega
       ·have hqe:((q:Int) == 0) = false:=by simp;omega
        have hb7:=hbel5
        have HMD:Hid (zz = movedL base q y nq):=Lib.hid (by rw [HMV.out];simp [movedL,hq0])
        obtain ⟨G,hG,hGd,hZ,hGb⟩:=FIN.out zz o5 c5 ww HMD.out hown5.out hb7
        have HG:=Lib.hid hG
        have HGD:=Lib.hid hGd
        have HZ:=Lib.hid hZ
        have HGB:=Lib.hid hGb
        clear hG hGd hZ hGb hown5
        go_wp2_with (at_builtin;refine StopAt (o:=⟨some 61,_,_,_,_,_⟩) ?_)
        refine Stop.go ?_
        refine wpList_snocF (w:=ww) (R:=RS RI) rfl _ _ 146 rfl 108 (.slice none 0 0) 1 24 tIntS rfl (.slice o4 z.length c4) z zz [.slice o5 zz.length c5] F' G rfl HZ.out HG.out HGD.out 108 rfl rfl (by omega) (by omega) ?_
        intro oa8 cap8 w8 F8 hown8 _ _ hF8 hch8
        obtain ⟨z',hz'⟩:∃ z',z' = z ++ [zz]:=⟨_,rfl⟩
        have HZ':Hid (z' = near ++ addTo base nvs nq (q + 1)):=Lib.hid (by rw [hz',hz.out,HAD.out,← HMD.out,List.append_assoc])
        have e2:z.length + 1 = z'.length:=by rw [hz'];simp
        have HZL':Hid (z'.length = base + (q + 1)):=Lib.hid (by have:=hzl.out;omega)
        have s7:=hb7.size
        have HF8:Hid (∀ b,b ∈ F8→b ∈ F ∨ w2.heap.size ≤ b):=Lib.hid (fun b hb => by
         rcases hF8 b hb with h|h|h
         ·exact hF4.out b h
         ·exact .inr (HGB.out b h)
         ·right;omega)
        have HCH:Hid (ChgF F w2 w8):=Lib.hid ((hch4.out.trans (Below.chgF hb7)).trans' hch8 (fun x hx => hF4.out x hx))
        rw [← hz',e2] at hown8
        have HO8:=Lib.hid hown8
        rw [e2]
        clear hown8 hF8 hch8 e2 hz'
        go_wp2_with fail
        go_roundw
        case rel => exact ⟨q + 1,F8,z',by omega,by first|go_num|rfl,HZ',HZL',⟨_,_,rfl⟩,HO8,HF8,HCH⟩
        case measure => simp [intOf] <;> omega
    ·obtain rfl:q = x.length:=by omega
     have hzfull:z = near ++ addTo base nvs nq x.length:=hz.out
     have hgr:graftTo u nodes list (k + 1) = z.set nq (z.getD nq [] ++ [(base:Int)]):=by
      rw [HGS.out]
      unfold graft1
      rw [← HBASE.out,← HNVS.out,← hzfull,Int.toNat_natCast]
     have hnqz:nq < z.length:=by rw [hzl.out];omega
     obtain ⟨g,cap,a,hv,_,_,hgl,hgF,hcell,hra,hSET⟩:=hown4.out.setRow (R:=RS RI) rfl nq hnqz
     simp only [Value.slice.injEq,true_and] at hv
     obtain ⟨rfl,rfl⟩:=hv
     have hgd:z.getD nq [] = z[nq]:=by simp [hnqz]
     rw [hgd] at hgr
     obtain ⟨xh,hxh⟩:∃ xh,xh = z[nq]'hnqz:=⟨_,rfl⟩
     rw [← hxh] at hra hgr
     obtain ⟨oh,ch,rfl,e1,e2⟩:=hra.val
     unfold maxLen at e2
     have gnz:wz.cell? ⟨bn,fn + k,none⟩ = some (.int .i64 (nq:Int)):=(hbz.cell (p:=⟨bn,fn + k,none⟩) hbn).trans gn
     have hxlen:xh.length ≤ 26:=by
      have h1:xh = near[nq]'(by have:=HBASE.out;omega):=by
       rw [hxh]
       simp only [hzfull]
       rw [List.getElem_append_left]
      rw [h1]
      have:=HEACH.out k (near[nq]'(by have:=HBASE.out;omega)) (by rw [← hnear.out];exact List.getElem_mem _)
      have:=HLEN.out
      omega
     have HSET:=Lib.hid hSET
     have HGR:=Lib.hid hgr
     have HRA:=Lib.hid hra
     have EGC:=Lib.hid (enters (P:=Try.prog) (f:=166) Try.func166 (by kernel_rfl) rfl)
     have hzl0:z.length = base + x.length:=hzl.out
     obtain ⟨zl,hzl'⟩:∃ zl,zl = z.length:=⟨_,rfl⟩
     rw [← hzl'] at hnqz hzl0
     rw [← hzl']
     have i1:(0:Int) ≤ (k:Int):=by omega
     have i2:(k:Int) < (nodes.length:Int):=by omega
     have i3:(0:Int) ≤ (nq:Int):=by omega
     have i4:(nq:Int) < (zl:Int):=by omega
     have HZL0:=Lib.hid hzl0
     have HZLEN:=Lib.hid hzl'
     clear hSET hgr hra hgd hxh hzfull hzl' hzl0
     have R1:Rd (RS RI) wz [.slice oh xh.length ch] xh:=HRA.out
     have HCL:Hid (∀ W:World,W.heap = wz.heap ∨ (∃ o,W.heap = (wz.alloc o).heap)→Calls Try.prog 166 #[.slice oh xh.length ch] W (RetO (RS RI) W xh)):=Lib.hid (fun W h => by
      refine c_slicesCloneInt _ xh W ?_ (by omega)
      rcases h with h|⟨o,h⟩
      ·exact R1.of_heap h
      ·exact (R1.below ((Below.refl _ _).alloc (Nat.le_refl _) o) (Nat.le_refl _)).of_heap h)
     have hb64:In64 (base:Int):=by unfold In64;omega
     obtain ⟨xb,hxb⟩:∃ xb,xh ++ [(base:Int)] = xb:=⟨_,rfl⟩
     have hxbl:xb.length ≤ 27:=by rw [← hxb,List.length_append,List.length_singleton];omega
     have HXB:=Lib.hid hxb
     rw [hxb] at HGR
     have RL:rdL RI (fun b => b < wz.heap.size) wz [.int .i64 (base:Int)] [(base:Int)]:=rdL.single ⟨rfl,hb64⟩
     have HLZ:Hid (∀ W:World,W.heap = (wz.alloc (.cells #[.int .i64 (base:Int)] 3)).heap→Rd (RS RI) W [.slice (some ⟨wz.heap.size,0,none⟩) 1 1] [(base:Int)]):=Lib.hid (fun W h => Rd.lit (ds:=[.int .i64 (base:Int)]) (xs:=[(base:Int)]) RL h (by show 1 ≤ maxLen;decide))
     have HLC:Hid (∀ wc W:World,W.heap = (wc.alloc (.cells #[.int .i64 (base:Int)] 3)).heap→Rd (RS RI) W [.slice (some ⟨wc.heap.size,0,none⟩) 1 1] [(base:Int)]):=Lib.hid (fun wc W h => Rd.lit (ds:=[.int .i64 (base:Int)]) (xs:=[(base:Int)]) (w:=wc) (rdL.single ⟨rfl,hb64⟩) h (by show 1 ≤ maxLen;decide))
     have hbn1:bn < wz.heap.size:=by omega
     have hbn2:¬ bn = wz.heap.size:=by omega
     have hgl2:¬ g = wz.heap.size:=by omega
     clear RL R1 hb64 hxb
     apply shareKey (fun (uc lit:Value) (oa9:Option Addr) (cap9:Nat) (wd:World) => ∃ F9,OwnF (RS (RS RI)) F9 (wd.setCell ⟨g,nq,none⟩ (.slice oa9 xb.length cap9)) [.slice (some ⟨g,0,none⟩) z.length c4] (z.set nq xb)∧(∀ b,b ∈ F9→b ∈ F' ∨ wz.heap.size ≤ b)∧ChgF F' wz (wd.setCell ⟨g,nq,none⟩ (.slice oa9 xb.length cap9)))
     case use =>
      intro KEY
      go_wp2_with fail
      go_region_law (first
       | (refine step_call rfl 166 _ _ rfl EGC.out #[.slice oh xh.length ch] (by simp [Act.eval]) ?_;refine Calls.mono (HCL.out _ (by first|exact .inl rfl|exact .inr ⟨_,rfl⟩)) ?_;rintro e wc ⟨uc,rfl,oc,bc⟩;have hbc:Below wz.heap.size wz wc:=(by first|exact Below.of_heap_eq bc rfl rfl rfl rfl|exact Below.of_alloc_heap bc rfl rfl rfl rfl);have oc':Own (RS RI) wz.heap.size wc.heap.size wc [uc] xh:=oc.mono (by simp) (Nat.le_refl _);have gnc:=(hbc.cell (p:=⟨bn,fn + k,none⟩) hbn1).trans gnz;have hbn3:bn < wc.heap.size:=Nat.lt_of_lt_of_le hbn1 hbc.size;clear oc;refine ⟨_,rfl,?_⟩)
       | (refine step_extI rfl _ _ 108 rfl 3 tInt uc xh wz.heap.size wc.heap.size rfl (by first|exact oc'|exact oc'.below ((Below.refl wc.heap.size wc).alloc (Nat.le_refl _) _) (Nat.le_refl _)) _ [(base:Int)] rfl (by first|exact HLC.out wc _ rfl|exact Rd.below (HLZ.out _ (by rfl)) bc (Nat.le_refl _)) (by first|exact Nat.le_refl _|simp) hbc.size (by simp;omega) xb HXB.out ?_;intro oa9 cap9 wd od d1 d2 bd;obtain ⟨Gd,hGd,hGb⟩:=OwnF.of od;have hbd:Below wz.heap.size wz wd:=(by first|exact hbc.trans bd|exact (hbc.alloc hbc.size _).trans bd);have gnd:=(hbd.cell (p:=⟨bn,fn + k,none⟩) hbn1).trans gnz;obtain ⟨f1,f2,F9,hF9,hs9,hc9⟩:=HSET.out wd xb _ Gd hbd hGd (fun b hb => (hGb b hb).1);generalize hl1:Value.slice (some ⟨wc.heap.size,0,none⟩) 1 1 = lit1;clear hl1;generalize hl2:Value.slice (some ⟨wz.heap.size,0,none⟩) 1 1 = lit2;clear hl2))
      all_goals first|exact KEY uc lit1 oa9 cap9 wd ⟨F9,hF9,hs9,hc9⟩|exact KEY uc lit2 oa9 cap9 wd ⟨F9,hF9,hs9,hc9⟩
     case key =>
      rintro uc lit oa9 cap9 wd ⟨F9,hF9,hs9,hc9⟩
      have HFIN:Hid (z.set nq xb = graftTo u nodes list (k + 1)):=Lib.hid HGR.out.symm
      obtain ⟨z9,hz9⟩:∃ z9,z9 = z.set nq xb:=⟨_,rfl⟩
      rw [← hz9] at HFIN hF9
      have hl9:zl = z9.length:=by rw [hz9,List.length_set];exact HZLEN.out
      have HB9:Hid (∀ b,b ∈ F9→w.heap.size ≤ b):=Lib.hid (fun b hb => by
       rcases hs9 b hb with h|h
       ·rcases hF4.out b h with h|h
        ·exact hF.out b h
        ·omega
       ·omega)
      have hbl9:Below w.heap.size w _:=hbz.trans (hc9.below (B:=w.heap.size) (by omega) (fun b hb => by
       rcases hF4.out b hb with h|h
       ·exact hF.out b h
       ·omega))
      have hl8:z.length = z9.length:=by rw [hz9,List.length_set]
      rw [hl8] at hF9
      have HF9:=Lib.hid hF9
      have HL9:=Lib.hid hl9
      clear hz9 hF9 hs9 hc9 hl9 hl8
      go_wp2_with fail
      go_roundw
      case rel => exact ⟨k + 1,F9,z9,by omega,by go_num,Lib.hid HFIN.out,⟨_,_,by rw [← HL9.out]⟩,(by have:=HF9.out;rw [← HL9.out] at this;exact Lib.hid this),HB9,hbl9⟩
      case measure => simp [intOf] <;> omega
  ·have hkk:k = ll:=by omega
   have hfin:near = graftTo u nodes list ll:=by rw [hnear.out,hkk]
   have htf:=HTF.out wo (.slice o2 near.length c2) (by rw [← hfin];exact hown.out.rd)
   clear hfin hkk
   go_wp2_with fail
   refine htf.mono ?_
   rintro e w3 ⟨u3,rfl,o3,b3⟩
   go_wp2_with fail
   go_ret
   exact ⟨_,rfl,o3.mono hsz1 (Nat.le_refl _),hbel.trans (b3.mono hsz1)⟩
end Go.Proofs.Ytofpjonggpjneaa
namespace Go.Proofs.Ytofpjonggpjneaa
open Go.RowKit
def ckOf (xs:List (List Int)):Int:=if xs.all lev8 = true then (if sumLen xs ≤ 8 then 0 else 3) else 1
theorem sumLen_le8:∀ xs:List (List Int),xs.all lev8 = true→sumLen xs ≤ 8 * xs.length
 | [],_ => by simp [sumLen]
 | x :: xs,h => by
  rw [List.all_cons,Bool.and_eq_true] at h
  have:=sumLen_le8 xs h.2
  have:=lev8_len h.1
  simp only [sumLen,List.map_cons,List.sum_cons,List.length_cons] at *
  omega
set_option maxRecDepth 100000 in
set_option maxHeartbeats 400000 in
theorem c_impl_checkGraft (v:Value) (xs:List (List Int)) (w:World) (h:Rd (RS (RS RI)) w [v] xs) (hl:xs.length ≤ 1000000):Calls Try.prog 113 #[v] w (RetS w (.int .i64 (ckOf xs))):=by
 have hal:=c_impl_areLevels v xs w h
 have hnd:=c_impl_nodesIn v xs w h
 unfold ckOf
 cases hall:xs.all lev8
 ·rw [hall] at hal
  clear hall
  go_enter Try.func113,Try.ntmps113
  go_wp2_with fail
  refine hal.mono ?_
  rintro e w' ⟨rfl,rfl⟩
  go_wp2_with fail
  go_ret
  exact ⟨rfl,rfl⟩
 ·rw [hall] at hal
  have h8:=sumLen_le8 xs hall
  rw [nodesB_eq xs (by omega)] at hnd
  by_cases hs:sumLen xs ≤ 8
  ·have h1:¬ ((sumLen xs:Nat):Int) > 8:=by omega
   have h2:¬ (8:Int) < ((sumLen xs:Nat):Int):=by omega
   clear hall
   go_enter Try.func113,Try.ntmps113
   go_wp2_with fail
   refine hal.mono ?_
   rintro e w' ⟨rfl,rfl⟩
   go_wp2_with fail
   refine hnd.mono ?_
   rintro e w' ⟨rfl,rfl⟩
   go_wp2_with fail
   go_ret
   exact ⟨by simp,rfl⟩
  ·have h1:((sumLen xs:Nat):Int) > 8:=by omega
   have h2:(8:Int) < ((sumLen xs:Nat):Int):=by omega
   clear hall
   go_enter Try.func113,Try.ntmps113
   go_wp2_with fail
   refine hal.mono ?_
   rintro e w' ⟨rfl,rfl⟩
   go_wp2_with fail
   refine hnd.mono ?_
   rintro e w' ⟨rfl,rfl⟩
   go_wp2_with fail
   go_ret
   exact ⟨by simp,rfl⟩
end Go.Proofs.Ytofpjonggpjneaa
namespace Go.Proofs.Ytofpjonggpjneaa
open Go.RowKit
theorem Row.take {w:World} {k n m cap:Nat} {ds:List Value} {og:Option Nat} (h:Row w (slv og n cap) k n ds og) (hm:m ≤ n):Row w (slv og m cap) k m (ds.take (m * k)) og:=by
 refine ⟨by rw [List.length_take,h.1];exact Nat.min_eq_left (Nat.mul_le_mul_right k hm),?_⟩
 rcases h.2 with ⟨h1,h2,h3⟩|⟨g,c,cur,e,h1,h2,h3,h4,h5,h6,h7⟩
 ·subst h3
  exact .inl ⟨rfl,by omega,rfl⟩
 ·subst h2
  have hc:cap = c:=by
   unfold slv at h1
   simp only [Value.slice.injEq] at h1
   exact h1.2.2
  subst hc
  refine .inr ⟨g,cap,cur,e,rfl,rfl,h3,by omega,h5,h6,?_⟩
  rw [← h7,List.take_take,Nat.min_eq_left (Nat.mul_le_mul_right k hm)]
section
variable {P:Program} {cfg:Cfg} {M:Nat→Prop} {w0:W0} {w w':World} {Ok:Nat→Prop} {N:Nat} {σ:Asg} {s:St} {a:Act} {ops:Array Oper}
theorem RunK.regCut (C:CfgOK P cfg) (T:Tab P) {fs:List Fr} {Q:Exit→St→Prop} {id:Nat} (n:Nat) {s1:St} (ha:Work (aopsT cfg T ops (ops.toList.take n) s) (some s1))
  (h:ROps P cfg M ops (ops.toList.drop n) (outK P cfg M fs Q .normal) s1):RunK P cfg M (.region id ops false) fs Q s:=by
 refine Runs.region ?_
 have e:ops.toList = ops.toList.take n ++ ops.toList.drop n:=(List.take_append_drop n _).symm
 have cut:∀ (l m:List Oper) (s:St),aopsT cfg T ops l s = some s1→ROps P cfg M ops m (outK P cfg M fs Q .normal) s1→ROps P cfg M ops (l ++ m) (outK P cfg M fs Q .normal) s:=by
  intro l
  induction l with
  | nil => intro m s h1 h2;simp only [aopsT,Option.some.injEq] at h1;subst h1;exact h2
  | cons o l ih =>
   intro m s h1 h2
   simp only [aopsT] at h1
   obtain ⟨s2,h3,h4⟩:=bind_some h1
   exact ROps.stepT C h3 (ih m s2 h4 h2)
 rw [e]
 exact cut _ _ s ha h
end
end Go.Proofs.Ytofpjonggpjneaa
namespace Go.Proofs.Ytofpjonggpjneaa
open Go.RowKit
section
variable {P:Program} {cfg:Cfg} {w0:W0} {w w':World} {Ok:Nat→Prop} {N:Nat} {σ σ':Asg} {s s':St} {a:Act} {M:Nat→Prop}
theorem relArgs.split {A:Nat→Prop}:∀ {pre:List (List D)} {ds:List (List D)} {vs:List Value},relArgs A w (pre ++ ds) vs→∃ vs1 vs2,vs = vs1 ++ vs2∧relArgs A w pre vs1∧relArgs A w ds vs2
 | [],ds,vs,h => ⟨[],vs,rfl,rfl,h⟩
 | d :: pre,ds,vs,⟨v,us,e,h1,h2⟩ => by
  obtain ⟨us1,us2,e2,h3,h4⟩:=relArgs.split h2
  subst e2;subst e
  exact ⟨v :: us1,us2,rfl,⟨v,us1,rfl,h1,h3⟩,h4⟩
theorem relArgs.join {A:Nat→Prop}:∀ {pre:List (List D)} {ds:List (List D)} {vs1 vs2:List Value},relArgs A w pre vs1→relArgs A w ds vs2→relArgs A w (pre ++ ds) (vs1 ++ vs2)
 | [],ds,vs1,vs2,h,k => by rw [show vs1 = [] from h];exact k
 | d :: pre,ds,vs1,vs2,⟨v,us,e,h1,h2⟩,k => by
  subst e
  exact ⟨v,us ++ vs2,rfl,h1,relArgs.join h2 k⟩
theorem Bel.nil (h:Bel ⟨w,fun b => (none:Option Nat) = some b⟩ w'):Below w.heap.size w w' :=
 ⟨h.os,h.tape,h.output,h.size,fun i hi => h.block i hi (fun e => nomatch e)⟩
theorem AOw.nil {g:FuncId} {pre post:List (List D)} {k:Nat} {Q:List Res→Prop} (h:AOw P g pre k [] post Q) (hk:0 < k):AFn P g (pre ++ [.raw (.slice none 0 0)] :: post) Q:=by
 refine ⟨h.call,fun A w vs hA hr => ?_⟩
 obtain ⟨vs1,vs2,e,h1,v,us,e2,h2,h3⟩:=relArgs.split hr
 subst e2;subst e
 obtain ⟨rfl,_⟩:=rdV_raw.1 (show rdV A w v (.raw (.slice none 0 0)) from h2)
 refine (h.fn A w vs1 us none 0 [] hA h1 h3 ⟨(Nat.zero_mul k).symm,.inl ⟨rfl,rfl,rfl⟩⟩ hk (by first|exact ⟨0,hk,rfl⟩|exact ⟨0,hk,trivial⟩|exact ⟨0,hk,by simp [rdL]⟩) (fun b e => nomatch e)).mono ?_
 rintro e w' ⟨v,rs,rfl,hQ,hb,ho⟩
 have e:(W0.mine ⟨w,fun b => (none:Option Nat) = some b⟩) = fun b => w.heap.size ≤ b:=by funext b;simp [W0.mine]
 rw [e] at ho
 exact ⟨v,rs,rfl,hQ,hb.nil,ho⟩
theorem n_callR (C:CfgOK P cfg) (h:Sim w0 Ok N σ s a w) {o:Oper} {f:Operand} {args:Array Operand} {ts:Array TypeId} {g:FuncId} (ho:o.op = .call ⟨.value f,args,ts⟩) (hf:((opv s.regs f).bind avD).bind fnId = some g)
  {ds:List (List D)} (hd:relArgs (Zn σ s.heap w) w ds (args.toList.map a.eval)) {Q0:List Res→Prop} (hfn:AFn P g ds Q0)
  {K:Act→World→Prop} {Q:Exit→Act→World→Prop} {key:Nat} (hfr:∀ rs,Q0 rs→∀ q ob,look q (resACs key rs).2 = some ob→Free s q)
  (hK:∀ rs,Q0 rs→∀ v w' σ',relAV σ' ((resACs key rs).2 ++ s.heap) w' (outAV (resACs key rs).1) v→Sim w0 Ok N σ' ⟨s.regs,(resACs key rs).2 ++ s.heap⟩ a w'→K (a.put o.dst v) w'):o.wp P a w K Q:=by
 have hfv:a.eval f = .func (.func g) #[] #[]:=fnId_rel h hf
 have hrun:(execOp a.eval o).run P w = .ok (.enter g (args.map a.eval)) w:=by
  unfold execOp
  rw [ho]
  simp [resolve,Deferred.ofValue,hfv,invoke,hfn.call]
 obtain ⟨A,hA,hAa,hAz⟩:∃ A:Nat→Prop,(∀ b,A b→b < w.heap.size)∧relArgs A w ds (args.toList.map a.eval)∧((∃ rs,Q0 rs∧rs.all Res.scalar = false)→∀ b,A b→Zn σ s.heap w b):=by
  exact ⟨Zn σ s.heap w,fun _ h => h.1,hd,fun _ b hb => hb⟩
 have hcall:=hfn.fn A w (args.toList.map a.eval) hA hAa
 unfold Oper.wp
 rw [hrun,Oper.upon_enter]
 have e:(args.toList.map a.eval).toArray = args.map a.eval:=by rw [← Array.toList_map,Array.toArray_toList]
 rw [← e]
 refine hcall.mono ?_
 rintro e w' ⟨v,rs,rfl,hQ,hw,us,G,X,rfl,hG1,hG2,hrel⟩
 obtain ⟨σ',k0,k1,k2,k3,k4⟩:=outs_asg key σ hrel hG1
 have hgn:∀ q u,look q (resACs key rs).2 = some u→∀ b,σ'.g q = some b→w.heap.size ≤ b:=fun q u hq b hb => hG2 b ((k2 q u hq).2.2.1 b (fp_out hb))
 have hZ1:(∀ b,A b→Zn σ s.heap w b)→∀ b,((A b ∨ w.heap.size ≤ b)∧b ∉ X)→b < w'.heap.size→Zn σ' ((resACs key rs).2 ++ s.heap) w' b:=by
  intro hAz b hb hlt
  have hz:=Kept.grown hw h hAz b hb.1 hlt
  refine ⟨hlt,by rw [k0];exact hz.2.1,fun q u hq e => ?_⟩
  rw [look_append] at hq
  cases hn:look q (resACs key rs).2 with
  | some o' => exact hb.2 ((k2 q o' hn).2.2.2 b e)
  | none =>
   rw [hn] at hq
   rw [(k1 q hn).1] at e
   exact hz.2.2 q u hq e
 refine hK rs hQ _ w' σ' (out_rel ?_) ?_
 ·by_cases hsc:rs.all Res.scalar = true
  ·exact k4.relS hsc
  ·exact k4.rel (hZ1 (hAz ⟨rs,hQ,by simpa using hsc⟩))
 ·refine h.news k0 hw (hfr rs hQ) k1 (fun q o' hq => ?_) (fun q o' hq => ?_) k3
  ·obtain ⟨⟨dd,k,xs,d,b1,b2,b3,b4⟩,_⟩:=k2 q o' hq
   subst b1
   refine ⟨dd,b2,b3,?_⟩
   show if d = true then ownR k w' dd xs (σ'.F q) else rdR k (Zn σ' ((resACs key rs).2 ++ s.heap) w') w' dd xs
   cases d with
   | true => rw [if_pos rfl];exact b4
   | false =>
    rw [if_neg (by decide)]
    have b4':rdR k (fun b => (A b ∨ w.heap.size ≤ b)∧b ∉ X) w' dd xs:=b4
    have hsc:rs.all Res.scalar = false:=by
     have key:∀ {rs:List Res} {key:Nat} {q:Nat},look q (resACs key rs).2 = some (.row k xs false)→rs.all Res.scalar = false:=by
      intro rs
      induction rs with
      | nil => intro key q hq;cases hq
      | cons r rs ih =>
       intro key q hq
       cases r with
       | val d => rw [List.all_cons,ih (by simpa [resACs,resAC] using hq),Bool.and_false]
       | own kk ys d =>
        simp only [resACs,resAC,List.singleton_append,look] at hq
        split at hq
        ·cases hq;rfl
        ·rw [List.all_cons,ih hq,Bool.and_false]
     exact key hq
    exact b4'.mono (fun b hb hlt => hZ1 (hAz ⟨rs,hQ,hsc⟩) b hb hlt)
  ·obtain ⟨_,b5,b6,_⟩:=k2 q o' hq
   exact ⟨fun b hb => hG2 b (b6 b hb),b5⟩
theorem ROps.callNil (C:CfgOK P cfg) {ops:Array Oper} {o:Oper} {l:List Oper} {Q:St→Prop} {d:Nat} {f:Operand} {args:Array Operand} {ts:Array TypeId} {g:FuncId} (hb:awanted ops s.regs o = some true) (hdN:d < cfg.N)
  (ho:o.op = .call ⟨.value f,args,ts⟩) (hod:o.dst = some d) (hf:((opv s.regs f).bind avD).bind fnId = some g)
  {xs:List Operand} {tx:List TypeId} {pre:List (List D)} (ha:args.toList = xs ++ [.const (.slice none 0 0)]) (hpre:aargs cfg (fun k => look k s.heap) s.regs xs tx = some pre) (hr:opRefs s.regs xs = [])
  {rs:List Res} (hfn:AFn P g (pre ++ [[.raw (.slice none 0 0)]]) (· = rs)) (hfr:(resACs d rs).2.all (fun p => fresh s p.1) = true)
  (h:ROps P cfg M ops l Q (s.got d rs)):ROps P cfg M ops (o :: l) Q s:=by
 intro w0 Ok σ a w Q' hM hS hQ
 refine wpList_step (fun K hK => ?_)
 rw [awanted_spec hS hb]
 simp only [if_true]
 have hrel:relArgs (Zn σ s.heap w) w (pre ++ [[.raw (.slice none 0 0)]]) (args.toList.map a.eval):=by
  rw [ha,List.map_append]
  exact relArgs.join ((aargs_rel C hS hpre).2 hr) ⟨_,[],rfl,rdV_raw.2 ⟨rfl,rfl⟩,rfl⟩
 refine n_callR C hS (key:=d) ho hf hrel hfn (fun rs' e => e ▸ fun q ob hq => fresh_free (List.all_eq_true.1 hfr _ (look_all hq))) (fun rs' e v w' σ' hv hS' => ?_)
 subst e
 rw [hod]
 have hsub:∀ k o',look k (insAll (resACs d rs').2 s.heap) = some o'→look k ((resACs d rs').2 ++ s.heap) = some o':=fun k o' ho' => by rw [look_insAll] at ho';exact ho'
 exact hK _ _ (h w0 Ok σ' _ _ Q' hM (Sim.ins (hS'.forget (fun _ _ h => h) hsub) hdN (hv.sub hsub)) hQ)
end
noncomputable def atOwn (A:List (List D)) (k:Nat) (X:List (List D)) (B:List (List D)) (R:List Res) (a:List (List D)) (k':Nat) (x:List (List D)) (b:List (List D)):Option (List Res × Option (List (List D))):=by
 classical
 exact if a = A∧k' = k∧x = X∧b = B then some (R,Option.none) else Option.none
theorem atOwn_eq (A:List (List D)) (k:Nat) (X:List (List D)) (B:List (List D)) (R:List Res):atOwn A k X B R A k X B = some (R,Option.none):=by
 unfold atOwn;rw [if_pos ⟨rfl,rfl,rfl,rfl⟩]
theorem atOwn_some {A:List (List D)} {k:Nat} {X:List (List D)} {B:List (List D)} {R:List Res} {a:List (List D)} {k':Nat} {x b:List (List D)} {r:List Res × Option (List (List D))} (h:atOwn A k X B R a k' x b = some r):a = A∧k' = k∧x = X∧b = B∧r = (R,Option.none):=by
 unfold atOwn at h
 split at h
 ·rename_i h1
  exact ⟨h1.1,h1.2.1,h1.2.2.1,h1.2.2.2,(Option.some.inj h).symm⟩
 ·exact nomatch h
noncomputable def Tab.own' {P:Program} (T:Tab P) (g:FuncId) (n:Nat) {A:List (List D)} {k:Nat} {X B:List (List D)} {R:List Res} (h:AOw P g A k X B (· = R)):Tab P :=
 T.own g ⟨false,n,atOwn A k X B R⟩ (fun pre k' xs post r _ e => by
  obtain ⟨rfl,rfl,rfl,rfl,rfl⟩:=atOwn_some e
  exact h.toEf)
end Go.Proofs.Ytofpjonggpjneaa
namespace Go.Proofs.Ytofpjonggpjneaa
open Go.RowKit
theorem grs_len (u v:List Int):(grs u v).length = u.length:=by simp [grs]
theorem grs_take_succ (u v:List Int) (i:Nat) (h:i < u.length):(grs u v).take (i + 1) = (grs u v).take i ++ [canon (graftL u i v)]:=by
 rw [List.take_succ_eq_append_getElem (by rw [grs_len];exact h)]
 simp [grs]
theorem graftL_len {u v:List Int} {n:Nat} (hn:n < u.length):(graftL u n v).length = u.length + v.length:=by
 have:=endOf_le hn
 unfold graftL
 simp only [List.length_append,List.length_take,List.length_map,List.length_drop]
 omega
theorem grs_size {u v:List Int} (hu:lev8 u = true) (hv:lev8 v = true) (h:u.length + v.length ≤ 8):∀ b ∈ grs u v,b.length ≤ 8:=fun b hb => by
 unfold grs at hb
 obtain ⟨n,hn,rfl⟩:=List.mem_map.1 hb
 have hn:=List.mem_range.1 hn
 rw [canon_len (lev8_lev ((gs_ok hu hv h).1 n hn)),graftL_len hn]
 exact h
def gsOf (u v:List Int):List (List Int × Int) × Int :=
 if (lev8 u && lev8 v) = true then (if u.length + v.length ≤ 8 then (sumOf (grs u v),0) else ([],3)) else ([],1)
theorem a_cloneInt (xs:List Int) (h:xs.length ≤ 1000000000):AFn Try.prog 166 [eL xs] (· = [.own 1 (xs.map eI) true]) :=
 afn_L_o (enters_of Try.func166 rfl rfl) (fun u w h' => c_slicesCloneInt u xs w h' h)
theorem a_grafted (u v:List Int) (n:Nat) (hu:lev8 u = true) (hc:canon u = u) (hv:lev8 v = true) (hn:n < u.length) (h8:u.length + v.length ≤ 8):AFn Try.prog 116 [eL u,eL [(n:Int)],eLL [v]] (· = [.own 1 ((canon (graftL u n v)).map eI) true]):=by
 have hg:=graft_ok hu hn (lev8_lev hv) h8
 rw [hc] at hg
 rw [← hg.2.2]
 exact AFn.of_o encI (enters_of Try.func116 rfl rfl) (fun w A vs ⟨v1,_,e1,h1,v2,_,e2,h2,v3,_,e3,h3,e4⟩ => by
  subst e4;subst e3;subst e2;subst e1
  exact c_impl_grafted v1 v2 v3 u [(n:Int)] [v] w (Rd.of (rd1 h1)) (Rd.of (rd1 h2)) (Rd.of (rdLL h3)) hu (by simp [hv]) rfl (by simp;omega) (by simp [sumLen];omega) hg.1)
theorem a_graftAll1 (u v:List Int) (n:Nat) (out:List (List Int)) (hu:lev8 u = true) (hc:canon u = u) (hv:lev8 v = true) (hn:n < u.length) (h8:u.length + v.length ≤ 8) (ho:out.length ≤ 1000) :
  AOw Try.prog 115 [eL u,eL [(n:Int)],eLL [v]] 1 (out.map eL) [] (· = [.own 1 ((out ++ [canon (graftL u n v)]).map eL) false]):=by
 have hg:=a_grafted u v n hu hc hv hn h8
 simp only [eLL,eL,List.map_cons,List.map_nil,eI] at hg
 have q1:=big_le (n:=out.length + 1) (by omega)
 have q2:=big_mul (n:=out.length + 1) (c:=24) (by omega) (by omega)
 refine AOw.of_runs (cfg_ok 38) Try.func115 rfl rfl rfl (by simp only [List.length_cons,List.length_nil];decide) ?_
 have hres:Try.f115.results.toList = [.tmp 8]:=rfl
 have hrts:Try.f115.resultTypes.toList = [30]:=rfl
 simp only [List.length_cons,List.length_nil,List.nil_append,List.cons_append,argRegs,argAV1,eL,eI,eLL,eB,Nat.zero_add,Nat.reduceAdd]
 intro M
 refine RunK.of ?_
 repeat' (first|with_reducible (first|refine Q1 ?_|refine Q2 ?_|refine Q3 ?_|refine Q4 ?_|refine Q5 ?_|refine Q6 ?_|refine Q7 ?_|refine Q8 ?_|refine Q9 ?_|refine Qa ?_|refine Qb ?_|refine Qc ?_|refine Qd ?_|refine Qe ?_|refine Qf ?_)|((with_reducible refine Qo ?_ ?_);focus rfl)|((with_reducible first|refine QT 25 (l:=?_) ?_ ?_|refine QF 25 (l:=?_) ?_ ?_);rotate_left 1;focus (simp only [Zu,Nat.reduceSub,Nat.reduceBEq];with_reducible rfl))|((with_reducible first|refine QS (cfg_ok 38) ((Tab.none.at' 116 hg)) (s':=?_) ?_ ?_|refine QC (b:=?_) ?_ ?_);rotate_left 1;focus ((with_reducible refine QW ?_);simp only [Zg,seval,if_true,if_false,reduceCtorEq,Nat.reduceEqDiff,eLL,eL,eI,List.length_map,q1,q2];with_reducible rfl)))
 (refine Ends.mk (by simp) (rs:=?_) (ks:=?_) hres hrts ?_ ?_ ?_;rotate_left 2;(focus (simp only [Ze,Zg,seval,if_true,if_false,reduceCtorEq,Nat.reduceEqDiff,List.map_append,List.map_cons,List.map_nil,eL];with_reducible rfl));(focus simp);focus (first|with_reducible rfl|(simp only [Zv,List.map_append,List.map_cons,List.map_nil,eL];done)))
set_option maxHeartbeats 4000000 in
theorem a_graftAll0 (u v:List Int) (hu:lev8 u = true) (hc:canon u = u) (hv:lev8 v = true) (h8:u.length + v.length ≤ 8) :
  AOw Try.prog 115 [eL u,eL [],eLL [v]] 1 [] [] (· = [.own 1 ((grs u v).map eL) false]):=by
 have hcl:=a_cloneInt [] (by simp)
 simp only [eL,List.map_nil] at hcl
 refine AOw.of_runs (cfg_ok 38) Try.func115 rfl rfl rfl (by simp only [List.length_cons,List.length_nil];decide) ?_
 have hres:Try.f115.results.toList = [.tmp 8]:=rfl
 have hrts:Try.f115.resultTypes.toList = [30]:=rfl
 simp only [List.length_cons,List.length_nil,List.nil_append,List.cons_append,argRegs,argAV1,eL,eI,eLL,eB,Nat.zero_add,Nat.reduceAdd]
 intro M
 refine RunK.of ?_
 have z1:(((0:Nat):Int) == ((1:Nat):Int)) = false:=by decide
 repeat' (first|with_reducible (first|refine Q1 ?_|refine Q2 ?_|refine Q3 ?_|refine Q4 ?_|refine Q5 ?_|refine Q6 ?_|refine Q7 ?_|refine Q8 ?_|refine Q9 ?_|refine Qa ?_|refine Qb ?_|refine Qc ?_|refine Qd ?_|refine Qe ?_|refine Qf ?_)|((with_reducible refine Qo ?_ ?_);focus rfl)|((with_reducible first|refine QT 25 (l:=?_) ?_ ?_|refine QF 25 (l:=?_) ?_ ?_);rotate_left 1;focus (simp only [Zu,Nat.reduceSub,Nat.reduceBEq];with_reducible rfl))|((with_reducible first|refine QS (cfg_ok 38) Tab.none (s':=?_) ?_ ?_|refine QC (b:=?_) ?_ ?_);rotate_left 1;focus ((with_reducible refine QW ?_);simp only [Zg,seval,if_true,if_false,reduceCtorEq,Nat.reduceEqDiff,eLL,eL,eI,List.length_map,List.map_nil,List.map_cons,z1];with_reducible rfl)))
 refine RunK.loop (β:=Nat) (γ:=Unit) (fun i => ⟨[(0,.c (.val (.sl 1 (u.map eI)))),(1,.c (.val (.sl 1 []))),(2,.c (.val (.sl 1 [[.sl 1 (v.map eI)]]))),(3,.c (.own 3 ((grs u v).take i).length)),(23,.c (.val (.int u.length))),(24,.c (.val (.int i)))],[(3,.row 1 (((grs u v).take i).map eL) false)]⟩) (fun i => i ≤ u.length) (fun i => u.length - i)
  (fun _ => ⟨[(3,.c (.own 3 (grs u v).length))],[(3,.row 1 ((grs u v).map eL) false)]⟩) (fun _ => True) 0 (Nat.zero_le _) ?_ ?_ ?_
 ·(repeat' (first|with_reducible refine Qn|((with_reducible refine Qr ?_ ?_);focus (first|with_reducible rfl|(simp only [Zz,Nat.reduceBEq,List.take_zero,List.map_nil,List.length_map];done)|rfl))|((with_reducible refine Qj (o':=?_) ?_ ?_ ?_);rotate_left 1;focus rfl)|((with_reducible refine Qw ?_ ?_);(focus (first|with_reducible rfl|(simp only [Zv,List.take_zero,List.map_nil,List.length_map];done)));focus (first|exact id|exact (fun h => nomatch h)|exact (fun _ => rfl)))))
 ·rintro i hi
  have hi:i ≤ u.length:=hi
  have hw:=w64_succ (n:=i) (by omega)
  by_cases h:i < u.length
  ·have htk:=grs_take_succ u v i h
   have hlr:((grs u v).take i).length ≤ 8:=by rw [List.length_take,grs_len];omega
   have hih:=a_graftAll1 u v i ((grs u v).take i) hu hc hv h h8 (by omega)
   rw [← htk] at hih
   simp only [eLL,eL,List.map_cons,List.map_nil,eI] at hih
   have i1:((i:Int) < (u.length:Int)) = True:=eq_true (by omega)
   repeat' (first|with_reducible (first|refine Q1 ?_|refine Q2 ?_|refine Q3 ?_|refine Q4 ?_|refine Q5 ?_|refine Q6 ?_|refine Q7 ?_|refine Q8 ?_|refine Q9 ?_|refine Qa ?_|refine Qb ?_|refine Qc ?_|refine Qd ?_|refine Qe ?_|refine Qf ?_)|((with_reducible refine Qo ?_ ?_);focus rfl)|((with_reducible first|refine QT 25 (l:=?_) ?_ ?_|refine QF 25 (l:=?_) ?_ ?_);rotate_left 1;focus (simp only [Zu,Nat.reduceSub,Nat.reduceBEq];with_reducible rfl))|((with_reducible first|refine QS (cfg_ok 38) Tab.none (s':=?_) ?_ ?_|refine QC (b:=?_) ?_ ?_);rotate_left 1;focus ((with_reducible refine QW ?_);simp only [Zg,seval,if_true,if_false,reduceCtorEq,Nat.reduceEqDiff,i1];with_reducible rfl)))
   refine RunK.regCut (cfg_ok 38) (Tab.none.at' 166 hcl) 8 (s1:=?_) ?_ ?_
   rotate_left 1
   focus (refine Work.mk ?_;simp only [Zg,seval,if_true,if_false,reduceCtorEq,Nat.reduceEqDiff];with_reducible rfl)
   simp only [List.toList_toArray,List.drop_succ_cons,List.drop_zero]
   refine ROps.frzs [32] ?_
   refine ROps.opsT (cfg_ok 38) (T:=Tab.none.own' 115 3 hih) (s':=?_) ?_ ?_
   rotate_left 1
   focus (simp only [Zg,seval,if_true,if_false,reduceCtorEq,Nat.reduceEqDiff,Tab.own',atOwn_eq,eL];with_reducible rfl)
   repeat' (first|with_reducible (first|refine Q1 ?_|refine Q2 ?_|refine Q3 ?_|refine Q4 ?_|refine Q5 ?_|refine Q6 ?_|refine Q7 ?_|refine Q8 ?_|refine Q9 ?_|refine Qa ?_|refine Qb ?_|refine Qc ?_|refine Qd ?_|refine Qe ?_|refine Qf ?_)|((with_reducible refine Qo ?_ ?_);focus rfl)|((with_reducible first|refine QT 25 (l:=?_) ?_ ?_|refine QF 25 (l:=?_) ?_ ?_);rotate_left 1;focus (simp only [Zu,Nat.reduceSub,Nat.reduceBEq];with_reducible rfl))|((with_reducible first|refine QS (cfg_ok 38) Tab.none (s':=?_) ?_ ?_|refine QC (b:=?_) ?_ ?_);rotate_left 1;focus ((with_reducible refine QW ?_);simp only [Zg,seval,if_true,if_false,reduceCtorEq,Nat.reduceEqDiff,hw];with_reducible rfl)))
   refine roundK.on (i + 1) ⟨h,by omega⟩ ?_
   (repeat' (first|with_reducible refine Qn|((with_reducible refine Qr ?_ ?_);focus (first|with_reducible rfl|(simp only [Zz,Nat.reduceBEq,List.length_map];done)|rfl))|((with_reducible refine Qj (o':=?_) ?_ ?_ ?_);rotate_left 1;focus rfl)|((with_reducible refine Qw ?_ ?_);(focus (first|with_reducible rfl|(simp only [Zv,List.length_map];done)));focus (first|exact id|exact (fun h => nomatch h)|exact (fun _ => rfl)))))
  ·have i1:((i:Int) < (u.length:Int)) = False:=eq_false (by omega)
   have hall:(grs u v).take i = grs u v:=List.take_of_length_le (by rw [grs_len];omega)
   rw [hall]
   repeat' (first|with_reducible (first|refine Q1 ?_|refine Q2 ?_|refine Q3 ?_|refine Q4 ?_|refine Q5 ?_|refine Q6 ?_|refine Q7 ?_|refine Q8 ?_|refine Q9 ?_|refine Qa ?_|refine Qb ?_|refine Qc ?_|refine Qd ?_|refine Qe ?_|refine Qf ?_)|((with_reducible refine Qo ?_ ?_);focus rfl)|((with_reducible first|refine QT 25 (l:=?_) ?_ ?_|refine QF 25 (l:=?_) ?_ ?_);rotate_left 1;focus (simp only [Zu,Nat.reduceSub,Nat.reduceBEq];with_reducible rfl))|((with_reducible first|refine QS (cfg_ok 38) Tab.none (s':=?_) ?_ ?_|refine QC (b:=?_) ?_ ?_);rotate_left 1;focus ((with_reducible refine QW ?_);simp only [Zg,seval,if_true,if_false,reduceCtorEq,Nat.reduceEqDiff,i1];with_reducible rfl)))
   refine roundK.out () trivial ?_
   (repeat' (first|with_reducible refine Qn|((with_reducible refine Qr ?_ ?_);focus (first|with_reducible rfl|(simp only [Zz,Nat.reduceBEq];done)|rfl))|((with_reducible refine Qj (o':=?_) ?_ ?_ ?_);rotate_left 1;focus rfl)|((with_reducible refine Qw ?_ ?_);(focus (first|with_reducible rfl|(simp only [Zv];done)));focus (first|exact id|exact (fun h => nomatch h)|exact (fun _ => rfl)))))
 ·rintro _ _
  repeat' (first|with_reducible (first|refine Q1 ?_|refine Q2 ?_|refine Q3 ?_|refine Q4 ?_|refine Q5 ?_|refine Q6 ?_|refine Q7 ?_|refine Q8 ?_|refine Q9 ?_|refine Qa ?_|refine Qb ?_|refine Qc ?_|refine Qd ?_|refine Qe ?_|refine Qf ?_)|((with_reducible refine Qo ?_ ?_);focus rfl)|((with_reducible first|refine QT 25 (l:=?_) ?_ ?_|refine QF 25 (l:=?_) ?_ ?_);rotate_left 1;focus (simp only [Zu,Nat.reduceSub,Nat.reduceBEq];with_reducible rfl))|((with_reducible first|refine QS (cfg_ok 38) Tab.none (s':=?_) ?_ ?_|refine QC (b:=?_) ?_ ?_);rotate_left 1;focus ((with_reducible refine QW ?_);simp only [Zg,seval,if_true,if_false,reduceCtorEq,Nat.reduceEqDiff];with_reducible rfl)))
  (refine Ends.mk (by simp) (rs:=?_) (ks:=?_) hres hrts ?_ ?_ ?_;rotate_left 2;(focus (simp only [Ze,Zg,seval,if_true,if_false,reduceCtorEq,Nat.reduceEqDiff];with_reducible rfl));(focus simp);focus (first|with_reducible rfl|(simp only [Zv];done)))
theorem a_checkGraft (xs:List (List Int)) (h:xs.length ≤ 1000):AFn Try.prog 113 [eLL xs] (· = [.val (.int (ckOf xs))]) :=
 afn_LLL_s (v:=.int .i64 _) (enters_of Try.func113 rfl rfl) (fun _ _ => rdV_int.2 ⟨rfl,by unfold ckOf In64;split <;> (try split) <;> omega⟩) (fun u w h' => c_impl_checkGraft u xs w h' (by omega))
set_option maxHeartbeats 2000000 in
theorem a_impl_GraftSum (u v:List Int) (hsu:u.length ≤ 1000000000) (hsv:v.length ≤ 1000000000):AFn Try.prog 31 [eL u,eL v] (· = [.own 2 ((gsOf u v).1.map eCt) true,.val (.int (gsOf u v).2)]):=by
 have hck:=a_checkGraft [u,v] (by simp)
 have hs:sumLen [u,v] = u.length + v.length:=by simp [sumLen]
 have ha:[u,v].all lev8 = (lev8 u && lev8 v):=by simp
 simp only [eLL,eL,List.map_cons,List.map_nil] at hck
 have b1:((1:Int) != 0) = true:=by decide
 have b3:((3:Int) != 0) = true:=by decide
 have b0:((0:Int) != 0) = false:=by decide
 unfold gsOf
 refine AFn.of_runs (cfg_ok 20) Try.func31 rfl rfl rfl (by simp only [List.length_cons,List.length_nil];decide) ?_
 have hres:Try.f31.results.toList = [.tmp 4,.tmp 5]:=rfl
 have hrts:Try.f31.resultTypes.toList = [40,2]:=rfl
 simp only [argRegs,argAV1,eL,eI,eLL,eB,Nat.zero_add,Nat.reduceAdd]
 intro M
 refine RunK.of ?_
 by_cases hb:(lev8 u && lev8 v) = true
 rotate_left
 ·have hk:ckOf [u,v] = 1:=by unfold ckOf;rw [ha,if_neg hb]
  rw [hk] at hck
  rw [if_neg hb]
  repeat' (first|with_reducible (first|refine Q1 ?_|refine Q2 ?_|refine Q3 ?_|refine Q4 ?_|refine Q5 ?_|refine Q6 ?_|refine Q7 ?_|refine Q8 ?_|refine Q9 ?_|refine Qa ?_|refine Qb ?_|refine Qc ?_|refine Qd ?_|refine Qe ?_|refine Qf ?_)|((with_reducible refine Qo ?_ ?_);focus rfl)|((with_reducible first|refine QT 7 (l:=?_) ?_ ?_|refine QF 7 (l:=?_) ?_ ?_);rotate_left 1;focus (simp only [Zu,Nat.reduceSub,Nat.reduceBEq];with_reducible rfl))|((with_reducible first|refine QS (cfg_ok 20) ((Tab.none.at' 113 hck)) (s':=?_) ?_ ?_|refine QC (b:=?_) ?_ ?_);rotate_left 1;focus ((with_reducible refine QW ?_);simp only [Zg,seval,if_true,if_false,reduceCtorEq,Nat.reduceEqDiff,b1];with_reducible rfl)))
  (refine Ends.mk (by simp) (rs:=?_) (ks:=?_) hres hrts ?_ ?_ ?_;rotate_left 2;(focus (simp only [Ze,Zg,seval,if_true,if_false,reduceCtorEq,Nat.reduceEqDiff];with_reducible rfl));(focus simp);focus (first|with_reducible rfl|(simp only [Zv];done)))
 rw [if_pos hb]
 by_cases h8:u.length + v.length ≤ 8
 rotate_left
 ·have hk:ckOf [u,v] = 3:=by unfold ckOf;rw [ha,if_pos hb,hs,if_neg h8]
  rw [hk] at hck
  rw [if_neg h8]
  repeat' (first|with_reducible (first|refine Q1 ?_|refine Q2 ?_|refine Q3 ?_|refine Q4 ?_|refine Q5 ?_|refine Q6 ?_|refine Q7 ?_|refine Q8 ?_|refine Q9 ?_|refine Qa ?_|refine Qb ?_|refine Qc ?_|refine Qd ?_|refine Qe ?_|refine Qf ?_)|((with_reducible refine Qo ?_ ?_);focus rfl)|((with_reducible first|refine QT 7 (l:=?_) ?_ ?_|refine QF 7 (l:=?_) ?_ ?_);rotate_left 1;focus (simp only [Zu,Nat.reduceSub,Nat.reduceBEq];with_reducible rfl))|((with_reducible first|refine QS (cfg_ok 20) ((Tab.none.at' 113 hck)) (s':=?_) ?_ ?_|refine QC (b:=?_) ?_ ?_);rotate_left 1;focus ((with_reducible refine QW ?_);simp only [Zg,seval,if_true,if_false,reduceCtorEq,Nat.reduceEqDiff,b3];with_reducible rfl)))
  (refine Ends.mk (by simp) (rs:=?_) (ks:=?_) hres hrts ?_ ?_ ?_;rotate_left 2;(focus (simp only [Ze,Zg,seval,if_true,if_false,reduceCtorEq,Nat.reduceEqDiff];with_reducible rfl));(focus simp);focus (first|with_reducible rfl|(simp only [Zv];done)))
 have hk:ckOf [u,v] = 0:=by unfold ckOf;rw [ha,if_pos hb,hs,if_pos h8]
 rw [hk] at hck
 rw [if_pos h8]
 rw [Bool.and_eq_true] at hb
 obtain ⟨hu,hv⟩:=hb
 have hc8:=lev8_canon hu
 have hcl:=canon_len (lev8_lev hu)
 have hca:=a_canonical u (lev8_lev hu) (lev8_len hu)
 have hga:=(a_graftAll0 (canon u) v hc8 (canon_idem (lev8_lev hu)) hv (by omega)).nil (by decide)
 have hgz:=sumLen_le (grs (canon u) v) (grs_size hc8 hv (by omega))
 rw [grs_len] at hgz
 have hct:=a_counted (grs (canon u) v) (by rw [grs_len];omega) (by omega)
 rw [(gs_ok hu hv h8).2] at hct
 simp only [eLL,eL,List.map_nil,List.map_cons] at hca hct
 repeat' (first|with_reducible (first|refine Q1 ?_|refine Q2 ?_|refine Q3 ?_|refine Q4 ?_|refine Q5 ?_|refine Q6 ?_|refine Q7 ?_|refine Q8 ?_|refine Q9 ?_|refine Qa ?_|refine Qb ?_|refine Qc ?_|refine Qd ?_|refine Qe ?_|refine Qf ?_)|((with_reducible refine Qo ?_ ?_);focus rfl)|((with_reducible first|refine QT 7 (l:=?_) ?_ ?_|refine QF 7 (l:=?_) ?_ ?_);rotate_left 1;focus (simp only [Zu,Nat.reduceSub,Nat.reduceBEq];with_reducible rfl))|((with_reducible first|refine QS (cfg_ok 20) ((Tab.none.at' 113 hck)) (s':=?_) ?_ ?_|refine QC (b:=?_) ?_ ?_);rotate_left 1;focus ((with_reducible refine QW ?_);simp only [Zg,seval,if_true,if_false,reduceCtorEq,Nat.reduceEqDiff,b0];with_reducible rfl)))
 refine RunK.regCut (cfg_ok 20) (Tab.none.at' 105 hca) 4 (s1:=?_) ?_ ?_
 rotate_left 1
 focus (refine Work.mk ?_;simp only [Zg,seval,if_true,if_false,reduceCtorEq,Nat.reduceEqDiff];with_reducible rfl)
 simp only [List.toList_toArray,List.drop_succ_cons,List.drop_zero]
 refine ROps.frzs [15,17] ?_
 refine ROps.callNil (cfg_ok 20) (d:=18) (g:=115) (xs:=[.tmp 15,.const (.slice none 0 0),.tmp 17]) (tx:=[24,108,30]) (pre:=[eL (canon u),eL [],eLL [v]]) rfl (by decide) rfl rfl rfl rfl rfl rfl hga rfl ?_
 refine ROps.opsT (cfg_ok 20) (T:=Tab.none.at' 114 hct) (s':=?_) ?_ ?_
 rotate_left 1
 focus (simp only [Zg,seval,if_true,if_false,reduceCtorEq,Nat.reduceEqDiff];with_reducible rfl)
 repeat' (first|with_reducible (first|refine Q1 ?_|refine Q2 ?_|refine Q3 ?_|refine Q4 ?_|refine Q5 ?_|refine Q6 ?_|refine Q7 ?_|refine Q8 ?_|refine Q9 ?_|refine Qa ?_|refine Qb ?_|refine Qc ?_|refine Qd ?_|refine Qe ?_|refine Qf ?_)|((with_reducible refine Qo ?_ ?_);focus rfl)|((with_reducible first|refine QT 7 (l:=?_) ?_ ?_|refine QF 7 (l:=?_) ?_ ?_);rotate_left 1;focus (simp only [Zu,Nat.reduceSub,Nat.reduceBEq];with_reducible rfl))|((with_reducible first|refine QS (cfg_ok 20) Tab.none (s':=?_) ?_ ?_|refine QC (b:=?_) ?_ ?_);rotate_left 1;focus ((with_reducible refine QW ?_);simp only [Zg,seval,if_true,if_false,reduceCtorEq,Nat.reduceEqDiff];with_reducible rfl)))
 (refine Ends.mk (by simp) (rs:=?_) (ks:=?_) hres hrts ?_ ?_ ?_;rotate_left 2;(focus (simp only [Ze,Zg,seval,if_true,if_false,reduceCtorEq,Nat.reduceEqDiff];with_reducible rfl));(focus simp);focus (first|with_reducible rfl|(simp only [Zv];done)))
end Go.Proofs.Ytofpjonggpjneaa
namespace Go.Proofs.Ytofpjonggpjneaa
open Go.RowKit
def cutAt (t:List Int) (n:Nat):List Int × List Int:=(canon (cutT t n),canon (cutB t n))
def cntTo (t:List Int) (p:List Int × List Int):Nat→Nat
 | 0 => 0
 | k + 1 => cntTo t p k + (if cutAt t (k + 1) = p then 1 else 0)
theorem cntTo_count (t:List Int) (p:List Int × List Int):∀ k,cntTo t p k = ((List.range k).map fun n => cutAt t (n + 1)).countP (fun q => decide (q = p))
 | 0 => rfl
 | k + 1 => by
  rw [List.range_succ,List.map_append,List.countP_append,← cntTo_count t p k]
  by_cases h:cutAt t (k + 1) = p
  ·simp [cntTo,h]
  ·simp [cntTo,h]
theorem cntTo_le (t:List Int) (p:List Int × List Int):∀ k,cntTo t p k ≤ k
 | 0 => Nat.le_refl _
 | k + 1 => by
  have:=cntTo_le t p k
  unfold cntTo
  split <;> omega
theorem cuts_perm_check:lists8.all (fun t => ((List.range (t.length - 1)).map fun n => cutAt t (n + 1)).isPerm ((List.range (t.length - 1)).map fun n => cutAt (canon t) (n + 1))) = true:=by decide +kernel
theorem cntTo_canon {t:List Int} (h:lev8 t = true) (p:List Int × List Int):cntTo (canon t) p (t.length - 1) = cntTo t p (t.length - 1):=by
 rw [cntTo_count,cntTo_count]
 exact ((List.isPerm_iff.1 (lev8_all cuts_perm_check h)).countP_eq _).symm
def cctOf (t a b:List Int):Int × Int:=if (lev8 t && lev8 a && lev8 b) = true then (((cntTo t (canon a,canon b) (t.length - 1):Nat):Int),(0:Int)) else (0,1)
theorem cctOf_ok {t a b:List Int} (h:(lev8 t && lev8 a && lev8 b) = true):cctOf t a b = (((cntTo t (canon a,canon b) (t.length - 1):Nat):Int),(0:Int)):=by unfold cctOf;rw [if_pos h]
theorem cctOf_bad {t a b:List Int} (h:(lev8 t && lev8 a && lev8 b) = false):cctOf t a b = (0,1):=by unfold cctOf;rw [if_neg (by simp [h])]
end Go.Proofs.Ytofpjonggpjneaa
namespace Go.Proofs.Ytofpjonggpjneaa
open Go.RowKit
def cutOf (t:List Int) (node:Int):(List Int × List Int) × Int :=
 if lev8 t = true then (if inR node 1 ((t.length:Int) - 1) = true then ((canon (cutT (canon t) node.toNat),canon (cutB (canon t) node.toNat)),0) else (([],[]),2)) else (([],[]),1)
theorem cutOf_bad {t:List Int} {node:Int} (h:lev8 t = false):cutOf t node = (([],[]),1):=by unfold cutOf;rw [if_neg (by simp [h])]
theorem cutOf_range {t:List Int} {node:Int} (h:lev8 t = true) (h2:inR node 1 ((t.length:Int) - 1) = false):cutOf t node = (([],[]),2):=by unfold cutOf;rw [if_pos h,if_neg (by simp [h2])]
theorem cutOf_ok {t:List Int} {m:Nat} (h:lev8 t = true) (h2:inR (m:Int) 1 ((t.length:Int) - 1) = true):cutOf t m = ((canon (cutT (canon t) m),canon (cutB (canon t) m)),0):=by unfold cutOf;rw [if_pos h,if_pos h2];rfl
set_option maxRecDepth 100000 in
set_option maxHeartbeats 2000000 in
theorem k_impl_CutAbove (v:Value) (node:Int) (t:List Int) (w:World) (h:Rd (RS RI) w [v] t) (hnode:In64 node) :
  Calls Try.prog 28 #[v,.int .i64 node] w (RetOOC (RS RI) (RS RI) w (cutOf t node).1.1 (cutOf t node).1.2 (cutOf t node).2):=by
 have hlv:=c_impl_IsLevels v t w h
 have hln:=c_impl_length v t w h
 have hir:=c_impl_inRange node 1 ((t.length:Int) - 1) w
 have hval:=h.val
 obtain ⟨oa,c1,rfl,m1,m2⟩:=hval
 unfold maxLen at m2
 have hw1:IntKind.i64.wrap ((t.length:Int) - 1) = (t.length:Int) - 1:=IntWalk.i64_in _ (by omega)
 cases h8:lev8 t
 ·have hr:=Lib.hid (cutOf_bad (node:=node) h8)
  rw [h8] at hlv
  go_enter Try.func28,Try.ntmps28
  go_wp2_with (go_at_call 49;refine hlv.mono ?_;rintro e w' ⟨rfl,rfl⟩)
  go_ret3
  exact ⟨_,_,w.heap.size,by rw [hr.out];rfl,⟨Nat.le_refl _,Nat.le_refl _⟩,by rw [hr.out];exact Own.nil _ _,by rw [hr.out];exact Own.nil _ _,Below.refl _ _⟩
 ·rw [h8] at hlv
  cases hin:inR node 1 ((t.length:Int) - 1)
  ·have hr:=Lib.hid (cutOf_range h8 hin)
   rw [hin] at hir
   go_enter Try.func28,Try.ntmps28
   go_wp2_with (first|(go_at_call 49;refine hlv.mono ?_;rintro e w' ⟨rfl,rfl⟩)|(go_at_call 100;refine hln.mono ?_;rintro e w' ⟨rfl,rfl⟩)|(go_at_call 95;refine hir.mono ?_;rintro e w' ⟨rfl,rfl⟩))
   go_ret3
   exact ⟨_,_,w.heap.size,by rw [hr.out];rfl,⟨Nat.le_refl _,Nat.le_refl _⟩,by rw [hr.out];exact Own.nil _ _,by rw [hr.out];exact Own.nil _ _,Below.refl _ _⟩
  ·rw [hin] at hir
   have hin2:=hin
   unfold inR at hin2
   simp only [Bool.and_eq_true,decide_eq_true_eq] at hin2
   obtain ⟨m,rfl⟩:∃ m:Nat,node = m:=⟨node.toNat,by omega⟩
   have hr:=Lib.hid (cutOf_ok h8 hin)
   have hl8:=lev8_len h8
   have hcn:=c_impl_canonical 13 _ t w h (lev8_lev h8) (by omega) (by omega)
   have hc8:=lev8_canon h8
   have hcl:=canon_len (lev8_lev h8)
   obtain ⟨ct,hct⟩:∃ ct,ct = canon t:=⟨_,rfl⟩
   rw [← hct] at hcn hc8 hcl hr
   have HCU:Hid (∀ W v,Rd (RS RI) W [v] ct→Calls Try.prog 109 #[v,.int .i64 m] W (RetOO (RS RI) (RS RI) W (canon (cutT ct m)) (canon (cutB ct m)))):=Lib.hid (fun W v r => c_impl_cutAbove v ct m W r hc8 (by omega) (by omega))
   clear hct hcl hc8 h8 hin
   go_enter Try.func28,Try.ntmps28
   go_wp2_with (first|(go_at_call 49;refine hlv.mono ?_;rintro e w' ⟨rfl,rfl⟩)|(go_at_call 100;refine hln.mono ?_;rintro e w' ⟨rfl,rfl⟩)|(go_at_call 95;refine hir.mono ?_;rintro e w' ⟨rfl,rfl⟩)|(go_at_call 105;refine hcn.mono ?_;rintro e w1 ⟨u,rfl,o1,b1⟩)|(go_at_call 109;refine (HCU.out _ _ o1.rd).mono ?_;rintro e w2 ⟨u1,u2,mid,rfl,⟨q1,q2⟩,oa1,oa2,b2⟩))
   go_ret3
   have s1:=b1.size
   exact ⟨_,_,mid,by rw [hr.out];rfl,⟨by omega,q2⟩,by rw [hr.out];exact oa1.mono s1 (Nat.le_refl _),by rw [hr.out];exact oa2,b1.trans (b2.mono s1)⟩
set_option maxRecDepth 100000 in
set_option maxHeartbeats 2000000 in
theorem k_spec_CutAbove (v:Value) (node:Int) (t:List Int) (w:World) (h:Rd (RS RI) w [v] t) (hnode:In64 node) (hsz:t.length ≤ 1048576) :
  Calls Try.prog 29 #[v,.int .i64 node] w (RetOOC (RS RI) (RS RI) w (cutOf t node).1.1 (cutOf t node).1.2 (cutOf t node).2):=by
 have hlv:=c_spec_l03Is v t w h (by omega)
 have HIR:Hid (∀ W:World,Calls Try.prog 97 #[.int .i64 node,.int .i64 1,.int .i64 ((t.length:Int) - 1)] W (RetS W (.bool (inR node 1 ((t.length:Int) - 1))))):=Lib.hid (fun W => c_spec_l01In node 1 ((t.length:Int) - 1) W)
 have hval:=h.val
 obtain ⟨oa,c1,rfl,m1,m2⟩:=hval
 unfold maxLen at m2
 have hw1:IntKind.i64.wrap ((t.length:Int) - 1) = (t.length:Int) - 1:=IntWalk.i64_in _ (by omega)
 cases h8:lev8 t
 ·have hr:=Lib.hid (cutOf_bad (node:=node) h8)
  rw [h8] at hlv
  go_enter Try.func29,Try.ntmps29
  go_wp2_with (go_at_call 110;refine hlv.mono ?_;rintro e w' ⟨rfl,nd,rfl⟩)
  go_ret3
  exact ⟨_,_,w.heap.size,by rw [hr.out];rfl,⟨Nat.le_refl _,Nat.le_refl _⟩,by rw [hr.out];exact Own.nil _ _,by rw [hr.out];exact Own.nil _ _,Below.drewN _ _ _⟩
 ·rw [h8] at hlv
  cases hin:inR node 1 ((t.length:Int) - 1)
  ·have hr:=Lib.hid (cutOf_range h8 hin)
   rw [hin] at HIR
   go_enter Try.func29,Try.ntmps29
   go_wp2_with (first|(go_at_call 110;refine hlv.mono ?_;rintro e w' ⟨rfl,nd,rfl⟩)|(go_at_call 97;refine (HIR.out _).mono ?_;rintro e w' ⟨rfl,rfl⟩))
   go_ret3
   exact ⟨_,_,w.heap.size,by rw [hr.out];rfl,⟨Nat.le_refl _,Nat.le_refl _⟩,by rw [hr.out];exact Own.nil _ _,by rw [hr.out];exact Own.nil _ _,Below.drewN _ _ _⟩
  ·rw [hin] at HIR
   have hin2:=hin
   unfold inR at hin2
   simp only [Bool.and_eq_true,decide_eq_true_eq] at hin2
   obtain ⟨m,rfl⟩:∃ m:Nat,node = m:=⟨node.toNat,by omega⟩
   have hr:=Lib.hid (cutOf_ok h8 hin)
   have hl8:=lev8_len h8
   have HCN:Hid (∀ nd:Nat,Calls Try.prog 112 #[.slice oa t.length c1] (w.drewN nd) (RetO (RS RI) (w.drewN nd) (canon t))):=Lib.hid (fun nd => c_spec_l03Canon 8 _ t _ (h.of_heap rfl) (lev8_lev h8) (by omega) (by omega))
   have hc8:=lev8_canon h8
   have hcl:=canon_len (lev8_lev h8)
   obtain ⟨ct,hct⟩:∃ ct,ct = canon t:=⟨_,rfl⟩
   rw [← hct] at HCN hc8 hcl hr
   have HCU:Hid (∀ W v,Rd (RS RI) W [v] ct→Calls Try.prog 111 #[v,.int .i64 m] W (RetOO (RS RI) (RS RI) W (canon (cutT ct m)) (canon (cutB ct m)))):=Lib.hid (fun W v r => c_spec_l04Cut v ct m W r hc8 (by omega) (by omega))
   clear hct hcl hc8 h8 hin h
   go_enter Try.func29,Try.ntmps29
   go_wp2_with (first|(go_at_call 110;refine hlv.mono ?_;rintro e w' ⟨rfl,nd,rfl⟩)|(go_at_call 97;refine (HIR.out _).mono ?_;rintro e w' ⟨rfl,rfl⟩)|(go_at_call 112;refine (HCN.out _).mono ?_;rintro e w1 ⟨u,rfl,o1,b1⟩)|(go_at_call 111;refine (HCU.out _ _ o1.rd).mono ?_;rintro e w2 ⟨u1,u2,mid,rfl,⟨q1,q2⟩,oa1,oa2,b2⟩))
   go_ret3
   have b1':=Below.of_heap_eq b1 rfl rfl rfl rfl (w:=w)
   have s1:=b1'.size
   exact ⟨_,_,mid,by rw [hr.out];rfl,⟨by omega,q2⟩,by rw [hr.out];exact oa1.mono s1 (Nat.le_refl _),by rw [hr.out];exact oa2,b1'.trans (b2.mono s1)⟩
end Go.Proofs.Ytofpjonggpjneaa
namespace Go.Proofs.Ytofpjonggpjneaa
open Go.RowKit
def gaOf (u:List Int) (node:Int) (v:List Int):List Int × Int :=
 if (lev8 u && lev8 v) = true then (if inR node 0 ((u.length:Int) - 1) = true then (if u.length + v.length ≤ 8 then (canon (graftL (canon u) node.toNat v),0) else ([],3)) else ([],2)) else ([],1)
theorem gaOf_bad {u v:List Int} {node:Int} (h:(lev8 u && lev8 v) = false):gaOf u node v = ([],1):=by unfold gaOf;rw [if_neg (by simp [h])]
theorem gaOf_range {u v:List Int} {node:Int} (h:(lev8 u && lev8 v) = true) (h2:inR node 0 ((u.length:Int) - 1) = false):gaOf u node v = ([],2):=by unfold gaOf;rw [if_pos h,if_neg (by simp [h2])]
theorem gaOf_many {u v:List Int} {node:Int} (h:(lev8 u && lev8 v) = true) (h2:inR node 0 ((u.length:Int) - 1) = true) (h3:¬ u.length + v.length ≤ 8):gaOf u node v = ([],3):=by unfold gaOf;rw [if_pos h,if_pos h2,if_neg h3]
theorem gaOf_ok {u v:List Int} {m:Nat} (h:(lev8 u && lev8 v) = true) (h2:inR (m:Int) 0 ((u.length:Int) - 1) = true) (h3:u.length + v.length ≤ 8):gaOf u m v = (canon (graftL (canon u) m v),0):=by unfold gaOf;rw [if_pos h,if_pos h2,if_pos h3];rfl
set_option maxRecDepth 100000 in
set_option maxHeartbeats 500000 in
theorem k_impl_GraftAt (v0:Value) (node:Int) (v2:Value) (u v:List Int) (w:World) (h0:Rd (RS RI) w [v0] u) (hnode:In64 node) (h2:Rd (RS RI) w [v2] v) :
  Calls Try.prog 34 #[v0,.int .i64 node,v2] w (RetOC (RS RI) w (gaOf u node v).1 (gaOf u node v).2):=by
 have hb0:Below w.heap.size w (w.alloc (.cells #[v0,v2] 24)):=(Below.refl _ _).alloc (Nat.le_refl _) _
 have hal:=c_impl_areLevels (.slice (some ⟨w.heap.size,0,none⟩) 2 2) [u,v] (w.alloc (.cells #[v0,v2] 24)) (Rd.two h0 h2 rfl)
 simp only [List.all_cons,List.all_nil,Bool.and_true] at hal
 have hln:=fun (W:World) (hb:Below w.heap.size w W) => c_impl_length v0 u W (h0.below hb (Nat.le_refl _))
 have HIR:Hid (∀ W:World,Calls Try.prog 95 #[.int .i64 node,.int .i64 0,.int .i64 ((u.length:Int) - 1)] W (RetS W (.bool (inR node 0 ((u.length:Int) - 1))))):=Lib.hid (fun W => c_impl_inRange node 0 ((u.length:Int) - 1) W)
 obtain ⟨oa0,c0,rfl,m1,m2⟩:=h0.val
 obtain ⟨oa2,c2,rfl,m3,m4⟩:=h2.val
 unfold maxLen at m2 m4
 have HLN:=Lib.hid hln
 have HB0:=hb0
 have hw1:IntKind.i64.wrap ((u.length:Int) - 1) = (u.length:Int) - 1:=IntWalk.i64_in _ (by omega)
 cases hall:lev8 u && lev8 v
 ·have hr:=Lib.hid (gaOf_bad (node:=node) hall)
  rw [hall] at hal
  go_enter Try.func34,Try.ntmps34
  go_wp2_with fail
  refine hal.mono ?_
  rintro e w' ⟨rfl,rfl⟩
  go_wp2_with fail
  go_ret2
  exact ⟨_,by rw [hr.out];rfl,by rw [hr.out];exact Own.nil _ _,hb0⟩
 ·rw [hall] at hal
  have hall2:=hall
  rw [Bool.and_eq_true] at hall2
  obtain ⟨p1,p2⟩:=hall2
  have l1:=lev8_len p1
  have l2:=lev8_len p2
  cases hin:inR node 0 ((u.length:Int) - 1)
  ·have hr:=Lib.hid (gaOf_range hall hin)
   rw [hin] at HIR
   go_enter Try.func34,Try.ntmps34
   go_wp2_with fail
   refine hal.mono ?_
   rintro e w' ⟨rfl,rfl⟩
   go_wp2_with fail
   refine (HLN.out _ HB0).mono ?_
   rintro e w' ⟨rfl,rfl⟩
   go_wp2_with fail
   refine (HIR.out _).mono ?_
   rintro e w' ⟨rfl,rfl⟩
   go_wp2_with fail
   go_ret2
   exact ⟨_,by rw [hr.out];rfl,by rw [hr.out];exact Own.nil _ _,hb0⟩
  ·rw [hin] at HIR
   have hw2:IntKind.i64.wrap ((u.length:Int) + v.length) = (u.length:Int) + v.length:=IntWalk.i64_in _ (by omega)
   by_cases h8:u.length + v.length ≤ 8
   ·have hin2:=hin
    unfold inR at hin2
    simp only [Bool.and_eq_true,decide_eq_true_eq] at hin2
    obtain ⟨m,rfl⟩:∃ m:Nat,node = m:=⟨node.toNat,by omega⟩
    have hr:=Lib.hid (gaOf_ok hall hin h8)
    have hg:=graft_ok p1 (n:=m) (by omega) (lev8_lev p2) h8
    have hcl:=canon_len (lev8_lev p1)
    have hc8:=lev8_canon p1
    have HCN:Hid (∀ W,Below w.heap.size w W→Calls Try.prog 105 #[.slice oa0 u.length c0] W (RetO (RS RI) W (canon u))):=Lib.hid (fun W hb => c_impl_canonical 13 _ u W (h0.below hb (Nat.le_refl _)) (lev8_lev p1) (by omega) (by omega))
    obtain ⟨cu,hcu⟩:∃ cu,cu = canon u:=⟨_,rfl⟩
    rw [← hcu] at hg hcl hc8 HCN hr
    obtain ⟨gr,hgr⟩:∃ gr,gr = canon (graftL cu m v):=⟨_,rfl⟩
    rw [← hgr] at hg hr
    have hcul:cu.length = u.length:=hcl
    have HGR:Hid (∀ (W:World) (a b c:Value),Rd (RS RI) W [a] cu→Rd (RS RI) W [b] [(m:Int)]→Rd (RS (RS RI)) W [c] [v]→Calls Try.prog 116 #[a,b,c] W (RetO (RS RI) W gr)):=Lib.hid (fun W a b c ra rb rc => by
     have:=c_impl_grafted a b c cu [(m:Int)] [v] W ra rb rc hc8 (by simpa using p2) rfl (by intro x hx;rw [List.mem_singleton] at hx;subst hx;omega) (by simp [sumLen];omega) hg.1
     rw [hg.2.2] at this
     exact this)
    have HV:=Lib.hid h2
    have h8':¬ ((u.length:Int) + (v.length:Int) > 8):=by omega
    have h8'':¬ ((8:Int) < (u.length:Int) + (v.length:Int)):=by omega
    have HM64:Hid (In64 (m:Int)):=Lib.hid hnode
    clear hcu hgr hg hcl hc8 hcul p1 p2 hall hin h0 h2 hin2
    go_enter Try.func34,Try.ntmps34
    go_wp2_with fail
    refine hal.mono ?_
    rintro e w' ⟨rfl,rfl⟩
    go_wp2_with fail
    refine (HLN.out _ HB0).mono ?_
    rintro e w' ⟨rfl,rfl⟩
    go_wp2_with fail
    refine (HIR.out _).mono ?_
    rintro e w' ⟨rfl,rfl⟩
    go_wp2_with fail
    refine (HCN.out _ HB0).mono ?_
    rintro e w1 ⟨u1,rfl,o1,b1⟩
    have hb1:=hb0.trans (b1.mono hb0.size)
    go_wp2_with fail
    have hr1:Below w1.heap.size w1 (w1.alloc (.cells #[.int .i64 (m:Int)] 3)):=(Below.refl _ _).alloc (Nat.le_refl _) _
    have hr2:Below w1.heap.size w1 ((w1.alloc (.cells #[.int .i64 (m:Int)] 3)).alloc (.cells #[.slice oa2 v.length c2] 24)):=hr1.alloc (by simp) _
    have hr3:Below (w1.alloc (.cells #[.int .i64 (m:Int)] 3)).heap.size (w1.alloc (.cells #[.int .i64 (m:Int)] 3)) ((w1.alloc (.cells #[.int .i64 (m:Int)] 3)).alloc (.cells #[.slice oa2 v.length c2] 24)):=(Below.refl _ _).alloc (Nat.le_refl _) _
    have q1:Rd (RS RI) ((w1.alloc (.cells #[.int .i64 (m:Int)] 3)).alloc (.cells #[.slice oa2 v.length c2] 24)) [u1] cu:=o1.rd.below hr2 (Nat.le_refl _)
    have q2:Rd (RS RI) ((w1.alloc (.cells #[.int .i64 (m:Int)] 3)).alloc (.cells #[.slice oa2 v.length c2] 24)) [.slice (some ⟨w1.heap.size,0,none⟩) 1 1] [(m:Int)] :=
     (Rd.lit (ds:=[.int .i64 (m:Int)]) (xs:=[(m:Int)]) (w:=w1) (rdL.single (R:=RI) ⟨rfl,HM64.out⟩) rfl (by show 1 ≤ maxLen;decide)).below hr3 (Nat.le_refl _)
    have q3:Rd (RS (RS RI)) ((w1.alloc (.cells #[.int .i64 (m:Int)] 3)).alloc (.cells #[.slice oa2 v.length c2] 24)) [.slice (some ⟨w1.heap.size + 1,0,none⟩) 1 1] [v]:=by
     rw [show w1.heap.size + 1 = (w1.alloc (.cells #[.int .i64 (m:Int)] 3)).heap.size from by simp]
     exact
     Rd.lit (ds:=[.slice oa2 v.length c2]) (xs:=[v]) (w:=w1.alloc (.cells #[.int .i64 (m:Int)] 3)) (rdL.single (R:=RS RI) ((HV.out.below hb1 (Nat.le_refl _)).below hr1 (Nat.le_refl _))) rfl (by show 1 ≤ maxLen;decide)
    refine (HGR.out _ _ _ _ q1 q2 q3).mono ?_
    rintro e w5 ⟨u5,rfl,o5,b5⟩
    go_wp2_with fail
    go_ret2
    have t1:=hb1.size
    have t2:=hr2.size
    exact ⟨_,by rw [hr.out];rfl,by rw [hr.out];exact o5.mono (by omega) (Nat.le_refl _),hb1.trans ((hr2.trans (b5.mono t2)).mono t1)⟩
   ·have hr:=Lib.hid (gaOf_many hall hin h8)
    have h8':((u.length:Int) + (v.length:Int) > 8):=by omega
    have h8'':((8:Int) < (u.length:Int) + (v.length:Int)):=by omega
    go_enter Try.func34,Try.ntmps34
    go_wp2_with fail
    refine hal.mono ?_
    rintro e w' ⟨rfl,rfl⟩
    go_wp2_with fail
    refine (HLN.out _ HB0).mono ?_
    rintro e w' ⟨rfl,rfl⟩
    go_wp2_with fail
    refine (HIR.out _).mono ?_
    rintro e w' ⟨rfl,rfl⟩
    go_wp2_with fail
    go_ret2
    exact ⟨_,by rw [hr.out];rfl,by rw [hr.out];exact Own.nil _ _,hb0⟩
end Go.Proofs.Ytofpjonggpjneaa
namespace Go.Proofs.Ytofpjonggpjneaa
open Go.RowKit
def bpOf (u v:List Int):List Int × Int:=if ckOf [u,v] = 0 then (canon (graftL (canon u) 0 v),0) else ([],ckOf [u,v])
end Go.Proofs.Ytofpjonggpjneaa
namespace Go.Proofs.Ytofpjonggpjneaa
def mP (n:Int):Int:=n % 10007
section
variable {κ:Type} (c:κ→κ→Int)
def coef (L:List (Int × κ)) (x:κ):Int :=
 match L with
 | [] => 0
 | q :: L => (if c q.2 x = 0 then q.1 else 0) + coef L x
def NfS (L:List (Int × κ)):Prop:=L.Pairwise (fun p q => c p.2 q.2 < 0)∧∀ q ∈ L,1 ≤ q.1∧q.1 < 10007
end
section
variable {κ:Type} {c:κ→κ→Int} (hc:Cmp c)
theorem coef_cons (q:Int × κ) (L:List (Int × κ)) (x:κ):coef c (q :: L) x = (if c q.2 x = 0 then q.1 else 0) + coef c L x:=rfl
theorem coef_zero {L:List (Int × κ)} {x:κ} (h:∀ q ∈ L,c q.2 x ≠ 0):coef c L x = 0:=by
 induction L with
 | nil => rfl
 | cons q L ih => rw [coef_cons,if_neg (h q (by simp)),ih (fun p hp => h p (by simp [hp]))];rfl
include hc
theorem Cmp.lt_ne {a b:κ} (h:c a b < 0):c b a ≠ 0:=by
 intro e
 have:=hc.zero b a e
 subst this
 rw [hc.refl] at h;omega
theorem Cmp.lt_tr {a b d:κ} (h1:c a b < 0) (h2:c b d < 0):c a d < 0:=by
 rcases Int.lt_trichotomy (c a d) 0 with h|h|h
 ·exact h
 ·have:=hc.zero a d h
  subst this
  have:=(hc.anti a b).1 h1
  omega
 ·have:=hc.trans a b d (by omega) (by omega)
  omega
theorem NfS.ext:∀ {L M:List (Int × κ)},NfS c L→NfS c M→(∀ x,mP (coef c L x) = mP (coef c M x))→L = M
 | [],[],_,_,_ => rfl
 | [],(b,z) :: M,_,⟨h2,h3⟩,he => by
  exfalso
  rw [List.pairwise_cons] at h2
  have h0:coef c M z = 0:=coef_zero (fun q hq => hc.lt_ne (h2.1 q hq))
  have:=he z
  rw [coef_cons,if_pos (hc.refl z),h0] at this
  have hb:=h3 (b,z) (by simp)
  simp at hb
  simp [coef,mP] at this
  omega
 | (a,y) :: L,[],⟨h2,h3⟩,_,he => by
  exfalso
  rw [List.pairwise_cons] at h2
  have h0:coef c L y = 0:=coef_zero (fun q hq => hc.lt_ne (h2.1 q hq))
  have:=he y
  rw [coef_cons,if_pos (hc.refl y),h0] at this
  have hb:=h3 (a,y) (by simp)
  simp at hb
  simp [coef,mP] at this
  omega
 | (a,y) :: L,(b,z) :: M,⟨h1,h1'⟩,⟨h2,h2'⟩,he => by
  have w1:=h1;have w2:=h2
  rw [List.pairwise_cons] at h1 h2
  have ha:=h1' (a,y) (by simp)
  have hb:=h2' (b,z) (by simp)
  simp only at ha hb
  have hy0:coef c L y = 0:=coef_zero (fun q hq => hc.lt_ne (h1.1 q hq))
  have hz0:coef c M z = 0:=coef_zero (fun q hq => hc.lt_ne (h2.1 q hq))
  rcases Int.lt_trichotomy (c y z) 0 with h|h|h
  ·exfalso
   have h4:coef c ((b,z) :: M) y = 0:=coef_zero (fun q hq => by
    rcases List.mem_cons.1 hq with rfl|hq
    ·exact hc.lt_ne h
    ·exact hc.lt_ne (hc.lt_tr h (h2.1 q hq)))
   have:=he y
   rw [h4,coef_cons,if_pos (hc.refl y),hy0] at this
   simp [mP] at this
   omega
  ·obtain rfl:=hc.zero y z h
   have hab:a = b:=by
    have:=he y
    rw [coef_cons,coef_cons,if_pos (hc.refl y),if_pos (hc.refl y),hy0,hz0] at this
    simp [mP] at this
    omega
   subst hab
   have:=NfS.ext (L:=L) (M:=M) ⟨h1.2,fun q hq => h1' q (by simp [hq])⟩ ⟨h2.2,fun q hq => h2' q (by simp [hq])⟩ (fun x => by
    have:=he x
    rw [coef_cons,coef_cons] at this
    unfold mP at this ⊢
    omega)
   rw [this]
  ·exfalso
   have h:=(hc.anti z y).2 h
   have h4:coef c ((a,y) :: L) z = 0:=coef_zero (fun q hq => by
    rcases List.mem_cons.1 hq with rfl|hq
    ·exact hc.lt_ne h
    ·exact hc.lt_ne (hc.lt_tr h (h1.1 q hq)))
   have:=he z
   rw [h4,coef_cons,if_pos (hc.refl z),hz0] at this
   simp [mP] at this
   omega
omit hc
include hc
end
end Go.Proofs.Ytofpjonggpjneaa
namespace Go.Proofs.Ytofpjonggpjneaa
end Go.Proofs.Ytofpjonggpjneaa
namespace Go.Proofs.Ytofpjonggpjneaa
section
variable {α:Type} {c:α→α→Int} (hc:Cmp c)
include hc
end
end Go.Proofs.Ytofpjonggpjneaa
namespace Go.Proofs.Ytofpjonggpjneaa
section
variable {κ:Type} (c:κ→κ→Int)
def putN:List (κ × Int)→Int→κ→List (κ × Int)
 | [],k,x => [(x,k)]
 | p :: L,k,x => if c x p.1 < 0 then (x,k) :: p :: L else if c x p.1 = 0 then (p.1,p.2 + k) :: L else p :: putN L k x
def expN (L:List (κ × Int)):List κ:=L.flatMap fun p => List.replicate p.2.toNat p.1
def NfN (L:List (κ × Int)):Prop:=L.Pairwise (fun p q => c p.1 q.1 < 0)∧∀ q ∈ L,1 ≤ q.2
def IsN (L:List (κ × Int)) (M:List κ):Prop:=NfN c L∧(expN L).Perm M
end
section
variable {κ:Type} {c:κ→κ→Int}
theorem expN_cons (p:κ × Int) (L:List (κ × Int)):expN (p :: L) = List.replicate p.2.toNat p.1 ++ expN L:=rfl
theorem expN_app (L M:List (κ × Int)):expN (L ++ M) = expN L ++ expN M:=by simp [expN]
theorem expN_mem {L:List (κ × Int)} {x:κ} (h:x ∈ expN L):∃ p ∈ L,p.1 = x:=by
 obtain ⟨p,hp,h⟩:=List.mem_flatMap.1 h
 exact ⟨p,hp,(List.eq_of_mem_replicate h).symm⟩
theorem mem_expN {L:List (κ × Int)} {p:κ × Int} (h:p ∈ L) (h1:1 ≤ p.2):p.1 ∈ expN L :=
 List.mem_flatMap.2 ⟨p,h,List.mem_replicate.2 ⟨by omega,rfl⟩⟩
theorem NfN.nil:NfN c []:=⟨List.Pairwise.nil,fun q hq => nomatch hq⟩
theorem IsN.nil:IsN c [] []:=⟨NfN.nil,List.Perm.refl _⟩
theorem IsN.perm {L:List (κ × Int)} {M M':List κ} (h:IsN c L M) (hp:M.Perm M'):IsN c L M':=⟨h.1,h.2.trans hp⟩
theorem NfN.tail {p:κ × Int} {L:List (κ × Int)} (h:NfN c (p :: L)):NfN c L:=⟨(List.pairwise_cons.1 h.1).2,fun q hq => h.2 q (List.mem_cons_of_mem _ hq)⟩
variable (hc:Cmp c)
include hc
theorem NfN.ext:∀ {L L':List (κ × Int)},NfN c L→NfN c L'→(expN L).Perm (expN L')→L = L'
 | [],[],_,_,_ => rfl
 | [],q :: L',_,h',hp => by
  have:=hp.length_eq
  have h1:=h'.2 q (by simp)
  rw [expN_cons,List.length_append,List.length_replicate] at this
  simp [expN] at this;omega
 | p :: L,[],h,_,hp => by
  have:=hp.length_eq
  have h1:=h.2 p (by simp)
  rw [expN_cons,List.length_append,List.length_replicate] at this
  simp [expN] at this;omega
 | p :: L,q :: L',h,h',hp => by
  have hp1:=h.2 p (by simp)
  have hq1:=h'.2 q (by simp)
  have low:∀ {p:κ × Int} {L:List (κ × Int)},NfN c (p :: L)→∀ x ∈ expN (p :: L),c p.1 x ≤ 0:=fun {p L} h x hx => by
   obtain ⟨r,hr,rfl⟩:=expN_mem hx
   rcases List.mem_cons.1 hr with rfl|hr
   ·rw [hc.refl];omega
   ·have:=(List.pairwise_cons.1 h.1).1 r hr;omega
  have e1:=low h q.1 (hp.mem_iff.2 (mem_expN (by simp) hq1))
  have e2:=low h' p.1 (hp.mem_iff.1 (mem_expN (by simp) hp1))
  have ek:p.1 = q.1:=by
   apply hc.zero
   rcases Int.lt_or_eq_of_le e1 with e|e
   ·have:=(hc.anti _ _).1 e;omega
   ·exact e
  have no:∀ {p:κ × Int} {L:List (κ × Int)},NfN c (p :: L)→p.1 ∉ expN L:=fun {p L} h hx => by
   obtain ⟨r,hr,e⟩:=expN_mem hx
   have:=(List.pairwise_cons.1 h.1).1 r hr
   rw [e,hc.refl] at this;omega
  have hcnt:∀ {p:κ × Int} {L:List (κ × Int)},NfN c (p :: L)→(expN (p :: L)).countP (fun x => decide (c p.1 x = 0)) = p.2.toNat:=fun {p L} h => by
   rw [expN_cons,List.countP_append,List.countP_replicate,if_pos (by simp [hc.refl])]
   have:(expN L).countP (fun x => decide (c p.1 x = 0)) = 0:=List.countP_eq_zero.2 fun x hx => by
    have:c p.1 x ≠ 0:=fun e => no h (by rw [hc.zero _ _ e];exact hx)
    simpa using this
   omega
  have c1:=hcnt h
  have c2:=hcnt h'
  rw [← ek,← hp.countP_eq] at c2
  have en:p.2 = q.2:=by omega
  have epq:p = q:=Prod.ext ek en
  subst epq
  rw [expN_cons,expN_cons,List.perm_append_left_iff] at hp
  rw [NfN.ext h.tail h'.tail hp]
theorem IsN.ext {L L':List (κ × Int)} {M M':List κ} (h:IsN c L M) (h':IsN c L' M') (hp:M.Perm M'):L = L' :=
 NfN.ext hc h.1 h'.1 (h.2.trans (hp.trans h'.2.symm))
theorem putN_exp:∀ (L:List (κ × Int)) (k:Int) (x:κ),(∀ q ∈ L,1 ≤ q.2)→1 ≤ k→(expN (putN c L k x)).Perm (expN L ++ List.replicate k.toNat x)
 | [],k,x,_,_ => by simp [putN,expN]
 | p :: L,k,x,h,hk => by
  unfold putN
  split
  ·rw [expN_cons];exact List.perm_append_comm
  ·split
   ·rename_i e
    rw [expN_cons,expN_cons,hc.zero _ _ e]
    have:=h p (by simp)
    show (List.replicate (p.2 + k).toNat p.1 ++ expN L).Perm _
    rw [show (p.2 + k).toNat = p.2.toNat + k.toNat by omega,← List.replicate_append_replicate,List.append_assoc,List.append_assoc]
    exact (List.perm_append_left_iff _).2 List.perm_append_comm
   ·rw [expN_cons,expN_cons,List.append_assoc]
    exact (List.perm_append_left_iff _).2 (putN_exp L k x (fun q hq => h q (by simp [hq])) hk)
omit hc in
theorem putN_mem:∀ (L:List (κ × Int)) (k:Int) (x:κ) {q:κ × Int},q ∈ putN c L k x→q.1 = x ∨ ∃ p ∈ L,p.1 = q.1
 | [],k,x,q,h => by
  obtain rfl:q = (x,k):=by simpa [putN] using h
  exact .inl rfl
 | p :: L,k,x,q,h => by
  unfold putN at h
  split at h
  ·rcases List.mem_cons.1 h with rfl|h
   ·exact .inl rfl
   ·exact .inr ⟨q,h,rfl⟩
  ·split at h
   ·rcases List.mem_cons.1 h with rfl|h
    ·exact .inr ⟨p,by simp,rfl⟩
    ·exact .inr ⟨q,by simp [h],rfl⟩
   ·rcases List.mem_cons.1 h with rfl|h
    ·exact .inr ⟨q,by simp,rfl⟩
    ·rcases putN_mem L k x h with h|⟨r,h1,h2⟩
     ·exact .inl h
     ·exact .inr ⟨r,by simp [h1],h2⟩
theorem putN_nf:∀ {L:List (κ × Int)} {k:Int} {x:κ},NfN c L→1 ≤ k→NfN c (putN c L k x)
 | [],k,x,_,hk => ⟨by simp [putN],fun q hq => by
   have:q = (x,k):=by simpa [putN] using hq
   rw [this];exact hk⟩
 | p :: L,k,x,h,hk => by
  have h1:=List.pairwise_cons.1 h.1
  have h2:=h.2 p (by simp)
  unfold putN
  split
  ·rename_i hlt
   refine ⟨List.pairwise_cons.2 ⟨fun q hq => ?_,h.1⟩,fun q hq => ?_⟩
   ·rcases List.mem_cons.1 hq with rfl|hq
    ·exact hlt
    ·exact hc.lt_tr hlt (h1.1 q hq)
   ·rcases List.mem_cons.1 hq with rfl|hq
    ·exact hk
    ·exact h.2 q hq
  ·split
   ·refine ⟨List.pairwise_cons.2 ⟨h1.1,h1.2⟩,fun q hq => ?_⟩
    rcases List.mem_cons.1 hq with rfl|hq
    ·show 1 ≤ p.2 + k;omega
    ·exact h.2 q (by simp [hq])
   ·rename_i n1 n2
    have ih:=putN_nf (x:=x) h.tail hk
    refine ⟨List.pairwise_cons.2 ⟨fun q hq => ?_,ih.1⟩,fun q hq => ?_⟩
    ·rcases putN_mem L k x hq with e|⟨r,hr,e⟩
     ·rw [e,hc.anti];omega
     ·rw [← e];exact h1.1 r hr
    ·rcases List.mem_cons.1 hq with rfl|hq
     ·exact h2
     ·exact ih.2 q hq
theorem IsN.put {L:List (κ × Int)} {M:List κ} (h:IsN c L M) {k:Int} {x:κ} (hk:1 ≤ k):IsN c (putN c L k x) (M ++ List.replicate k.toNat x) :=
 ⟨putN_nf hc h.1 hk,(putN_exp hc L k x h.1.2 hk).trans ((List.perm_append_right_iff _).2 h.2)⟩
theorem IsN.puts:∀ (P:List (κ × Int)) {L:List (κ × Int)} {M:List κ},IsN c L M→(∀ p ∈ P,1 ≤ p.2)→IsN c (P.foldl (fun s p => putN c s p.2 p.1) L) (M ++ expN P)
 | [],L,M,h,_ => by simpa [expN] using h
 | p :: P,L,M,h,hp => by
  have:=IsN.puts P (h.put hc (hp p (by simp)) (x:=p.1)) (fun q hq => hp q (by simp [hq]))
  rw [expN_cons,← List.append_assoc]
  exact this
omit hc
theorem IsN.cnt {L:List (κ × Int)} {M:List κ} (h:IsN c L M):∀ p ∈ L,1 ≤ p.2∧p.2 ≤ M.length:=fun p hp => by
 have h1:=h.1.2 p hp
 refine ⟨h1,?_⟩
 have hl:=h.2.length_eq
 obtain ⟨s,t,rfl⟩:=List.append_of_mem hp
 rw [expN_app,expN_cons,List.length_append,List.length_append,List.length_replicate] at hl
 omega
theorem IsN.len {L:List (κ × Int)} {M:List κ} (h:IsN c L M):L.length ≤ M.length:=by
 rw [← h.2.length_eq]
 have key:∀ (L:List (κ × Int)),(∀ p ∈ L,1 ≤ p.2)→L.length ≤ (expN L).length:=by
  intro L
  induction L with
  | nil => intro _;exact Nat.le_refl _
  | cons p L ih =>
   intro hp
   have h1:=hp p (by simp)
   have h2:=ih (fun q hq => hp q (by simp [hq]))
   rw [expN_cons,List.length_append,List.length_replicate,List.length_cons];omega
 exact key L h.1.2
theorem IsN.key {L:List (κ × Int)} {M:List κ} (h:IsN c L M):∀ p ∈ L,p.1 ∈ M:=fun p hp => h.2.mem_iff.1 (mem_expN hp (h.1.2 p hp))
include hc
end
end Go.Proofs.Ytofpjonggpjneaa
namespace Go.Proofs.Ytofpjonggpjneaa
open Go.RowKit
theorem putC_putN:∀ (s:List (List Int × Int)) (t:List Int) (n:Int),putC s t n = putN cmpT s n t
 | [],_,_ => rfl
 | (x,c) :: s,t,n => by
  unfold putC putN
  have ha:=cmpT_cmp.anti x t
  by_cases h1:cmpT x t < 0
  ·have h2:¬ cmpT t x < 0:=by omega
   have h3:¬ cmpT t x = 0:=by omega
   rw [if_pos h1,if_neg h2,if_neg h3,putC_putN s t n]
  ·rw [if_neg h1]
   by_cases h2:x = t
   ·subst h2
    have:=cmpT_cmp.refl x
    rw [if_pos rfl,if_neg (by omega),if_pos this]
   ·have h3:=cmpT_eq_of h1 h2
    rw [if_neg h2,if_pos h3]
theorem foldl_putN (ts:List (List Int)):∀ s,ts.foldl (fun s t => putC s t 1) s = (ts.map fun t => (t,(1:Int))).foldl (fun s p => putN cmpT s p.2 p.1) s:=by
 induction ts with
 | nil => intro s;rfl
 | cons t ts ih => intro s;rw [List.foldl_cons,List.map_cons,List.foldl_cons,ih,putC_putN]
theorem expN_one (ts:List (List Int)):expN (ts.map fun t => (t,(1:Int))) = ts:=by
 induction ts with
 | nil => rfl
 | cons t ts ih => rw [List.map_cons,expN_cons,ih];rfl
theorem sumOf_is (ts:List (List Int)):IsN cmpT (sumOf ts) ts:=by
 have h:=IsN.puts (c:=cmpT) (hc:=cmpT_cmp) (ts.map fun t => (t,(1:Int))) IsN.nil (by simp)
 rw [expN_one,List.nil_append,← foldl_putN] at h
 exact h
end Go.Proofs.Ytofpjonggpjneaa
namespace Go.Proofs.Ytofpjonggpjneaa
open Go.RowKit
def ceOK (u:List Int):Bool:=(List.range u.length).all fun n => Nat.beq n 0 || ((List.range (cutT u n).length).any fun i => decide (canon (graftL (canon (cutT u n)) i (canon (cutB u n))) = u))
set_option maxRecDepth 100000 in
theorem ce_check:trees8.all ceOK = true:=by decide +kernel
end Go.Proofs.Ytofpjonggpjneaa
namespace Go.Proofs.Ytofpjonggpjneaa
open Go.RowKit
theorem cntTo_pos (t:List Int) (p:List Int × List Int) {n:Nat} (h1:1 ≤ n) (h:cutAt t n = p):∀ k,n ≤ k→1 ≤ cntTo t p k
 | 0,hk => by omega
 | k + 1,hk => by
  unfold cntTo
  by_cases e:n = k + 1
  ·rw [← e,if_pos h];omega
  ·have:=cntTo_pos t p h1 h k (by omega)
   omega
structure CeF (t:List Int) (a b u:List Int) (i0:Nat):Prop where
 la:lev8 a = true
 lb:lev8 b = true
 len:a.length + b.length = t.length
 lt0:i0 < a.length
 at_:canon (graftL a i0 b) = u
 ca:canon a = a
 cct:cctOf t a b = ((cctOf t a b).1,0)∧1 ≤ (cctOf t a b).1∧(cntTo t (canon a,canon b) (t.length - 1):Int) ≤ 1000000
 gs:gsOf a b = (sumOf (grs a b),0)
 mem:∃ z ∈ sumOf (grs a b),z.1 = u
 all:(sumOf (grs a b)).length ≤ 8∧∀ z ∈ sumOf (grs a b),z.1.length ≤ 8∧1 ≤ z.2∧z.2 ≤ 8
 ga:∀ i:Nat,i < a.length→gaOf a i b = (canon (graftL a i b),0)
theorem ce_all {t:List Int} (h:lev8 t = true) {n:Nat} (h1:1 ≤ n) (hn:n < t.length):∃ i0,CeF t (canon (cutT (canon t) n)) (canon (cutB (canon t) n)) (canon t) i0:=by
 have hu:=lev8_canon h
 have hul:=canon_len (lev8_lev h)
 have h8:=lev8_len h
 have hc:=cuts_lev hu (n:=n) (by omega) (by omega)
 have hm:canon t ∈ trees8:=by
  unfold trees8
  exact List.mem_filter.2 ⟨mem_lists8 hu,decide_eq_true (canon_idem (lev8_lev h))⟩
 have hk:=List.all_eq_true.1 (List.all_eq_true.1 ce_check _ hm) n (List.mem_range.2 (by omega))
 rw [Bool.or_eq_true] at hk
 have hk:=hk.resolve_left (fun e => by have:=Nat.eq_of_beq_eq_true e;omega)
 obtain ⟨i0,hi,he⟩:=List.any_eq_true.1 hk
 have hi:=List.mem_range.1 hi
 have he:=of_decide_eq_true he
 have la:=lev8_canon hc.1
 have lb:=lev8_canon hc.2
 have ea:=canon_len (lev8_lev hc.1)
 have eb:=canon_len (lev8_lev hc.2)
 have ca:=canon_idem (lev8_lev hc.1)
 have cb:=canon_idem (lev8_lev hc.2)
 have hcut:(cutT (canon t) n).length + (cutB (canon t) n).length = (canon t).length:=by
  have:=endOf_le (t:=canon t) (n:=n) (by omega)
  unfold cutT cutB
  simp only [List.length_append,List.length_take,List.length_drop,List.length_map]
  have:n < endOf (canon t) n:=by unfold endOf;omega
  omega
 obtain ⟨a,hA⟩:∃ a,a = canon (cutT (canon t) n):=⟨_,rfl⟩
 obtain ⟨b,hB⟩:∃ b,b = canon (cutB (canon t) n):=⟨_,rfl⟩
 rw [← hA] at la ea ca he ⊢
 rw [← hB] at lb eb cb he ⊢
 have hab:a.length + b.length ≤ 8:=by omega
 have hgs:gsOf a b = (sumOf (grs a b),0):=by unfold gsOf;rw [if_pos (by rw [la,lb];rfl),if_pos hab]
 have hcc:cctOf t a b = (((cntTo t (canon a,canon b) (t.length - 1):Nat):Int),(0:Int)):=cctOf_ok (by rw [h,la,lb];rfl)
 have hcn:1 ≤ cntTo t (canon a,canon b) (t.length - 1):=by
  rw [← cntTo_canon h]
  refine cntTo_pos _ _ h1 ?_ _ (by omega)
  unfold cutAt
  rw [ca,cb,hA,hB]
 have hcl:=cntTo_le t (canon a,canon b) (t.length - 1)
 have hsz:=grs_size la lb hab
 have hmu:canon t ∈ grs a b:=by
  unfold grs
  exact List.mem_map.2 ⟨i0,List.mem_range.2 (by omega),he⟩
 have his:=sumOf_is (grs a b)
 have hle:=his.len
 rw [grs_len] at hle
 refine ⟨i0,la,lb,by omega,by omega,he,ca,⟨by rw [hcc],by rw [hcc];simp only;omega,by omega⟩,hgs,?_,⟨by have:=lev8_len la;omega,fun z hz => ?_⟩,fun i hi' => ?_⟩
 ·obtain ⟨z,hz,e⟩:=expN_mem (his.2.mem_iff.2 hmu)
  exact ⟨z,hz,e⟩
 ·have k1:=hsz _ (his.key z hz)
  have k2:=his.cnt z hz
  rw [grs_len] at k2
  have:=lev8_len la
  exact ⟨k1,k2.1,by omega⟩
 ·have hin:inR (i:Int) 0 ((a.length:Int) - 1) = true:=by unfold inR;simp;omega
  have:=gaOf_ok (u:=a) (v:=b) (m:=i) (by rw [la,lb];rfl) hin hab
  rw [this,ca]
end Go.Proofs.Ytofpjonggpjneaa
