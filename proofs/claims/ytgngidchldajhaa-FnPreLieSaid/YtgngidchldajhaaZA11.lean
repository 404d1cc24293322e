/- Lemmas (11). -/
import Derived.Test.YtgngidchldajhaaZA5
import Derived.Test.YtgngidchldajhaaZA6
import Derived.Test.YtgngidchldajhaaZA7
import Derived.Test.YtgngidchldajhaaZA8
import Derived.Test.YtgngidchldajhaaZA10
set_option linter.unusedSimpArgs false
set_option linter.unusedVariables false
namespace Go.Proofs.Ytgngidchldajhaa
open Go.RowKit
set_option maxRecDepth 100000 in
set_option maxHeartbeats 400000 in
theorem c_slicesCloneInt (v:Value) (xs:List Int) (w:World) (h:Rd (RS RI) w [v] xs) (hsz:xs.length ≤ 1000000000) :
  Calls Try.prog 87 #[v] w (RetO (RS RI) w xs):=by
 obtain ⟨oa,c1,I1⟩:=h.ints
 obtain rfl:=I1.val
 have m1:=I1.le;have m2:=I1.capLe
 unfold maxLen at m2
 have q22:∀ (w:World) (a:Option Addr) (n c n' c':Nat),(binOp .eql 98 (.slice a n c) (.slice none n' c')).run Try.prog w = .ok (.bool a.isNone) w:=fun w a n c n' c' => Lib.run_eql_slice_nil w _ _ a n c n' c' tInt.ht
 cases oa with
 | none =>
  have hc:=I1.noneCap rfl
  have hx:xs = []:=List.eq_nil_of_length_eq_zero (by omega)
  subst hx;subst hc
  clear h I1
  go_enter Try.func87,Try.ntmps87
  go_wp2_with fail
  go_ret
  exact ⟨_,rfl,Own.nil _ _,Below.refl _ _⟩
 | some ad =>
 have I2:Ints (w.alloc (.cells #[] 3)) (.slice (some ad) xs.length c1) xs (some ad) c1:=by
  refine ⟨rfl,m1,I1.capLe,I1.noneCap,I1.bd,?_⟩
  rcases I1.row with h|⟨b,off,e,hb,hc⟩
  ·exact .inl h
  ·refine .inr ⟨b,off,e,by simp;omega,fun j hj => ?_⟩
   rw [World.cell?_alloc_lt _ _ _ hb];exact hc j hj
 have hrow:=Row.lit w #[] 3 1 0 (by decide) (by simp)
 have HI:=Lib.hid I2
 have HR:=Lib.hid hrow
 clear I2 hrow
 go_enter Try.func87,Try.ntmps87
 go_wp2_with (at_builtin;refine StopAt (o:=⟨some 7,_,_,_,_,_⟩) ?_)
 refine Stop.go ?_
 refine wpList_appendS rfl _ _ 98 rfl 3 (.int .i64 0) 1 8 tInt (.slice (some ⟨w.heap.size,0,none⟩) 0 0) 0 [] (some w.heap.size) rfl (by simpa using HR.out) (some ad) xs.length c1 (xs.map (Value.int .i64)) rfl (by simp) (fun h => by cases h) (Row.cells_ints HI.out) (by intro u hu;obtain ⟨x,_,rfl⟩:=List.mem_map.1 hu;rfl) (by omega) (by unfold maxLen;omega) ?_
 intro v' w' og' happ
 rw [Nat.zero_add,List.nil_append] at happ
 have hlow:=happ.low (B:=w.heap.size) (by simp) (fun g hg => by cases hg;exact Nat.le_refl _)
 have hbel:Below w.heap.size w w':=((Below.refl w.heap.size w).alloc (Nat.le_refl _) (.cells #[] 3)).trans hlow.2
 have hown:Own (RS RI) w.heap.size w'.heap.size w' [v'] xs:=Row.OwnI (by simpa using happ.1) I1.bd hlow.1
 have HO:=Lib.hid hown
 obtain ⟨oa',cap',rfl,_⟩:=hown.val
 clear hown happ hlow
 go_wp2_with fail
 go_ret
 exact ⟨_,rfl,HO.out,hbel⟩
theorem shareKey {A B C D E:Type} {goal:Prop} (FACTS:A→B→C→D→E→Prop) {G:A→B→C→D→E→Prop} (use:(∀ a b c d e,FACTS a b c d e→G a b c d e)→goal) (key:∀ a b c d e,FACTS a b c d e→G a b c d e):goal:=use key
theorem moved_take (base:Nat) (xs:List Int) (k:Nat) (h:k < xs.length):(xs.take (k + 1)).map (fun x => (base:Int) + x) = (xs.take k).map (fun x => (base:Int) + x) ++ [(base:Int) + xs[k]]:=by
 rw [List.take_succ_eq_append_getElem h,List.map_append];rfl
set_option maxRecDepth 100000 in
set_option maxHeartbeats 20000000 in
theorem c_impl_grafted (vu vn vl:Value) (u:List Int) (nodes:List Int) (list:List (List Int)) (w:World) (hu:Rd (RS RI) w [vu] u) (hn:Rd (RS RI) w [vn] nodes) (hl:Rd (RS (RS RI)) w [vl] list)
  (hu8:lev8 u = true) (hl8:∀ v ∈ list,lev8 v = true) (hnl:nodes.length = list.length) (hnb:∀ x ∈ nodes,0 ≤ x∧x < u.length) (hsum:u.length + sumLen list ≤ 8) (hok:graftOk u nodes list = true) :
  Calls Try.prog 86 #[vu,vn,vl] w (RetO (RS RI) w (graftN u nodes list)):=by
 have hupos:=(lev8_lev hu8).pos
 have hne:=c_impl_nearOf vu u w hu hu8
 unfold graftOk at hok
 rw [Bool.and_eq_true] at hok
 have hTF:∀ (W:World) (v:Value),Rd (RS (RS RI)) W [v] (graftTo u nodes list list.length)→Calls Try.prog 110 #[v,.int .i64 0,.int .i64 (-1)] W (RetO (RS RI) W (graftN u nodes list)):=fun W v r =>
  c_impl_treeFrom 9 v _ 0 (-1) W r hok.1 (Nat.le_of_ble_eq_true hok.2)
 have HTF:=Lib.hid hTF
 obtain ⟨oa,c1,rfl,m1,m2⟩:=hu.val
 obtain ⟨on,cn,IN⟩:=hn.ints
 obtain rfl:=IN.val
 obtain ⟨ol,cl,LL⟩:=hl.lists
 obtain rfl:=LL.val
 have k1:=IN.le;have k2:=IN.capLe;have k3:=LL.le;have k4:=LL.capLe
 unfold maxLen at k2
 have HIN:=Lib.hid IN
 have HLL:=Lib.hid LL
 have HL8:=Lib.hid hl8
 have HNB:=Lib.hid hnb
 have HNL:=Lib.hid hnl
 have HSUM:=Lib.hid hsum
 have hGL:=fun i hi => graftTo_len u nodes list i hi
 have HGL:=Lib.hid hGL
 have HLEN:Hid (list.length ≤ 8):=Lib.hid (by
  have:=len_le_sumLen list (fun b hb => lev8_lev (hl8 b hb))
  omega)
 obtain ⟨ll,hll⟩:∃ ll,ll = list.length:=⟨_,rfl⟩
 rw [← hll] at k3 HTF
 rw [← hll]
 have HLN:=Lib.hid hll
 have HEACH:=Lib.hid (graftTo_each (u:=u) (nodes:=nodes) (list:=list) (by omega) (fun v hv => lev8_len (hl8 v hv)))
 clear hu hn hl IN LL hl8 hnl hnb hsum hok hTF hGL hll
 go_enter Try.func86,Try.ntmps86
 go_wp2_with fail
 refine hne.mono ?_
 rintro e w1 ⟨u1,rfl,o1,b1⟩
 obtain ⟨F1,oF1,hF1⟩:=OwnF.of o1
 obtain ⟨o1a,c1a,rfl,_⟩:=o1.val
 have HO1:=Lib.hid oF1
 have HF1:=Lib.hid hF1
 clear o1 hne oF1 hF1
 go_wp2_with fail
 go_loopw [7,20] (fun nr i wr => ∃ (k:Nat) (F:List Nat) (near:List (List Int)),k ≤ ll∧i = .int .i64 k∧Hid (near = graftTo u nodes list k)∧(∃ oa cap,nr = .slice oa near.length cap)∧Hid (OwnF (RS (RS RI)) F wr [nr] near)∧Hid (∀ b,b ∈ F→w.heap.size ≤ b)∧Below w.heap.size w wr) (fun _ i _ => ll - (intOf i).toNat)
 case atStart => exact ⟨0,F1,nears u,Nat.zero_le _,rfl,Lib.hid rfl,⟨_,_,rfl⟩,HO1.out,Lib.hid (fun b hb => (HF1.out b hb).1),b1⟩
 case round =>
  obtain ⟨k,F,near,hk,rfl,hnear,⟨o2,c2,rfl⟩,hown,hF,hbel⟩:=hrel
  clear HO1
  obtain ⟨wo,hwo⟩:∃ wo:World,wo = wr:=⟨_,rfl⟩
  subst hwo
  have hsz1:=hbel.size
  by_cases hlt:k < ll
  ·have hlt2:k < list.length:=by rw [← HLN.out];exact hlt
   have hltn:k < nodes.length:=by rw [HNL.out];exact hlt2
   obtain ⟨bl,fl,rfl,hbl,hcl⟩:=HLL.out.get hlt2
   obtain ⟨oi,ci,g1,hrd,q1,q2⟩:=hcl k hlt2
   have g2:wo.cell? ⟨bl,fl + k,none⟩ = some (.slice oi list[k].length ci):=(hbel.cell (p:=⟨bl,fl + k,none⟩) hbl).trans g1
   obtain ⟨bn,fn,rfl,hbn,hcn⟩:=HIN.out.get hltn
   have gn:=hcn k hltn
   have hv8:=HL8.out list[k] (List.getElem_mem hlt2)
   have hvn:=c_impl_nearOf (.slice oi list[k].length ci) list[k] wo (hrd.below hbel (Nat.le_refl _)) hv8
   have hnd:=HNB.out nodes[k] (List.getElem_mem hltn)
   have hgl:=HGL.out k (by omega)
   rw [← hnear.out] at hgl
   have hss:=sumLen_take_succ list k hlt2
   have hsl:=sumLen_take list (k + 1)
   have hgs:graftTo u nodes list (k + 1) = graft1 near nodes[k] list[k]:=by rw [graftTo,← hnear.out];congr 1 <;> simp [hltn,hlt2]
   have hnbd:=nearTo_bd list[k] list[k].length (Nat.le_refl _)
   have hnel:=nearTo_each list[k] list[k].length
   have hnvl:(nears list[k]).length = list[k].length:=nearTo_len _ _
   have hvl8:=lev8_len hv8
   obtain ⟨x,hx⟩:∃ x,x = list[k]'hlt2:=⟨_,rfl⟩
   obtain ⟨nd,hnd'⟩:∃ nd,nd = nodes[k]'hltn:=⟨_,rfl⟩
   rw [← hx] at g2 q1 hvn hss hgs hnbd hnel hnvl hvl8
   rw [← hnd'] at gn hnd hgs
   have hsum:=HSUM.out
   have hnn:near.length + x.length ≤ 8:=by omega
   obtain ⟨n0,n1⟩:=hnd
   obtain ⟨nq,rfl⟩:∃ nq:Nat,nd = nq:=⟨nd.toNat,by omega⟩
   have hnq:nq < near.length:=by omega
   have HGS:=Lib.hid hgs
   have HNBD:=Lib.hid hnbd
   have HNEL:=Lib.hid hnel
   have hxl:=hnvl
   obtain ⟨nvs,hnvs⟩:∃ nvs,nvs = nears x:=⟨_,rfl⟩
   change ∀ y ∈ nears x,_ at hnbd
   have HNV0:Hid (∀ y ∈ nvs,y.length ≤ 16∧∀ z ∈ y,0 ≤ z∧z < 8):=Lib.hid (by
    intro y hy
    rw [hnvs] at hy
    refine ⟨by have:=HNEL.out y hy;omega,fun z hz => ?_⟩
    have:=HNBD.out y hy z hz
    omega)
   rw [← hnvs] at hvn hxl
   have HXL:=Lib.hid hxl
   have HNVS:=Lib.hid hnvs
   have HOW:=hown
   have hFl:=hown.out.lt
   have hnd0:=hown.out.2
   have hnb:near.length ≤ 8:=by omega
   clear hcl hcn g1 hrd hx hnd' hgl hss hsl hgs hnbd hnel hnvl hv8 hsum hxl hnvs
   go_wp2_with fail
   refine hvn.mono ?_
   rintro e w2 ⟨u2,rfl,o3,b3⟩
   obtain ⟨ov,cv,rfl,v1,v2⟩:=o3.val
   have HNV:=Lib.hid o3
   rw [HXL.out] at v1
   rw [HXL.out]
   have HO2:Hid (OwnF (RS (RS RI)) F w2 [.slice o2 near.length c2] near):=Lib.hid (HOW.out.frame (fun b hb => b3.block b (hFl b hb)))
   have s3:=b3.size
   have hbel2:=hbel.trans (b3.mono hsz1)
   obtain ⟨base,hbase⟩:∃ base,base = near.length:=⟨_,rfl⟩
   rw [← hbase]
   have HBASE:=Lib.hid hbase
   rw [← hbase] at hnn hnq hnb HO2 HOW hown
   clear o3 hvn hbase
   go_wp2_with fail
   go_loopw [7,30] (fun nr i wz => ∃ (q:Nat) (F':List Nat) (z:List (List Int)),q ≤ x.length∧i = .int .i64 q∧Hid (z = near ++ addTo base nvs nq q)∧Hid (z.length = base + q)∧(∃ oa cap,nr = .slice oa z.length cap)∧Hid (OwnF (RS (RS RI)) F' wz [nr] z)∧Hid (∀ b,b ∈ F'→b ∈ F ∨ w2.heap.size ≤ b)∧Hid (ChgF F w2 wz)) (fun _ i _ => x.length - (intOf i).toNat)
   case atStart => exact ⟨0,F,near,Nat.zero_le _,rfl,Lib.hid (by simp [addTo]),Lib.hid HBASE.out.symm,⟨_,_,by rw [← HBASE.out]⟩,Lib.hid HO2.out,Lib.hid (fun b hb => .inl hb),Lib.hid (ChgF.refl _ _)⟩
   case round =>
    obtain ⟨q,F',z,hq,rfl,hz,hzl,⟨o4,c4,rfl⟩,hown4,hF4,hch4⟩:=hrel
    obtain ⟨wz,hwz⟩:∃ wz:World,wz = wr:=⟨_,rfl⟩
    subst hwz
    have hzlt:=hown4.out.lt
    have s4:=hch4.out.size
    have hbz:Below w.heap.size w wz:=hbel2.trans (hch4.out.below (by omega) hF.out)
    have hszz:=hbz.size
    by_cases hlq:q < x.length
    ·have HNZ:Own (RS (RS RI)) wo.heap.size w2.heap.size wz [.slice ov x.length cv] nvs:=by
      have:=HNV.out.frame (w':=wz) (fun b h1 h2 => hch4.out.block b h2 (fun hm => by have:=hFl b hm;omega))
      rw [HXL.out] at this
      exact this
     obtain ⟨oaz,caz,LZ⟩:=HNZ.rd.lists
     have hvz:=LZ.val
     simp only [Value.slice.injEq] at hvz
     obtain ⟨rfl,hvz2,rfl⟩:=hvz
     clear hvz2
     have hlq2:q < nvs.length:=by rw [HXL.out];exact hlq
     obtain ⟨bv,fv,rfl,hbv,hcv⟩:=LZ.get hlq2
     obtain ⟨oy,cy,g3,hry,y1,y2⟩:=hcv q hlq2
     have hyb:=HNV0.out nvs[q] (List.getElem_mem hlq2)
     have hgd:nvs.getD q [] = nvs[q]:=by simp [hlq2]
     have had:addTo base nvs nq (q + 1) = addTo base nvs nq q ++ [movedL base q (nvs.getD q []) nq]:=rfl
     rw [hgd] at had
     obtain ⟨y,hy⟩:∃ y,y = nvs[q]'hlq2:=⟨_,rfl⟩
     rw [← hy] at g3 hry y1 hyb had
     obtain ⟨oy2,cy2,IY⟩:=hry.ints
     have hvy:=IY.val
     simp only [Value.slice.injEq,true_and] at hvy
     obtain ⟨rfl,rfl⟩:=hvy
     obtain ⟨hyl,hye⟩:=hyb
     have HIY:=Lib.hid IY
     have HYE:=Lib.hid hye
     have HAD:=Lib.hid had
     have HZB:Hid (z.length ≤ 8):=Lib.hid (by rw [hzl.out];omega)
     have gnz:wz.cell? ⟨bn,fn + k,none⟩ = some (.int .i64 (nq:Int)):=(hbz.cell (p:=⟨bn,fn + k,none⟩) hbn).trans gn
     have iq1:(0:Int) ≤ (q:Int):=by omega
     have iq2:(q:Int) < (x.length:Int):=by omega
     clear HNZ LZ hcv hry hy IY hye had hgd hlq2
     go_wp2_with fail
     go_loopw [13,38] (fun o i ww => ∃ (r:Nat) (zz:List Int),r ≤ y.length∧i = .int .i64 r∧Hid (zz = (y.take r).map (fun x => (base:Int) + x))∧Hid (zz.length = r)∧(∃ oa cap,o = .slice oa zz.length cap)∧Hid (Own (RS RI) wz.heap.size ww.heap.size ww [o] zz)∧Below wz.heap.size wz ww) (fun _ i _ => y.length - (intOf i).toNat)
     case atStart => exact ⟨0,[],Nat.zero_le _,rfl,Lib.hid rfl,Lib.hid rfl,⟨_,_,rfl⟩,Lib.hid ((Own.empty (R:=RI) (w:=wz) 3 wz.heap.size (Nat.le_refl _)).top _ (by simp)),(Below.refl _ _).alloc (Nat.le_refl _) _⟩
     case round =>
      obtain ⟨r,zz,hr,rfl,hzz,hzzl,⟨o5,c5,rfl⟩,hown5,hbel5⟩:=hrel
      obtain ⟨ww,hww⟩:∃ ww:World,ww = wr:=⟨_,rfl⟩
      subst hww
      have s5:=hbel5.size
      by_cases hlr:r < y.length
      ·obtain ⟨by',fy,rfl,hby,hcy⟩:=HIY.out.get hlr
       have g4:ww.cell? ⟨by',fy + r,none⟩ = some (Value.int .i64 y[r]):=(hbel5.cell (p:=⟨by',fy + r,none⟩) hby).trans (hcy r hlr)
       have hme:=HYE.out y[r] (List.getElem_mem hlr)
       have hnx:=moved_take base y r hlr
       obtain ⟨ye,hye⟩:∃ ye:Int,ye = y[r]'hlr:=⟨_,rfl⟩
       rw [← hye] at g4 hme hnx
       obtain ⟨e1',e2'⟩:=hme
       have hw1:IntKind.i64.wrap ((base:Int) + ye) = (base:Int) + ye:=IntWalk.i64_in _ (by omega)
       have HNX:=Lib.hid hnx
       have hzb5:zz.length ≤ 16:=by rw [hzzl.out];omega
       have ir1:(0:Int) ≤ (r:Int):=by omega
       have ir2:(r:Int) < (y.length:Int):=by omega
       clear hcy hye hnx
       go_wp2_with (at_builtin;refine StopAt (o:=⟨some 47,_,_,_,_,_⟩) ?_)
       refine Stop.go ?_
       refine wpList_snoc (w:=ww) (R:=RI) rfl _ _ 98 rfl 3 (.int .i64 0) 1 8 tInt rfl (.slice o5 zz.length c5) zz ((base:Int) + ye) [.int .i64 ((base:Int) + ye)] wz.heap.size ww.heap.size ww.heap.size rfl hown5.out (Own.int ⟨by omega,by omega⟩) (Nat.le_refl _) s5 3 rfl rfl (by omega) (by omega) ?_
       intro oa6 cap6 w6 hown6 _ _ hbel6
       have hb6:=hbel5.trans hbel6
       obtain ⟨zz',hzz'⟩:∃ zz',zz' = zz ++ [(base:Int) + ye]:=⟨_,rfl⟩
       have HZZ:Hid (zz' = (y.take (r + 1)).map (fun x => (base:Int) + x)):=Lib.hid (by rw [hzz',HNX.out,hzz.out])
       have e1:zz.length + 1 = zz'.length:=by rw [hzz'];simp
       have HZZL:Hid (zz'.length = r + 1):=Lib.hid (by rw [← e1,hzzl.out])
       rw [← hzz',e1] at hown6
       have HO6:Hid (Own (RS RI) wz.heap.size w6.heap.size w6 [.slice oa6 zz'.length cap6] zz'):=hown6
       rw [e1]
       clear hown6 hbel6 hown5 e1 hzz'
       go_wp2_with fail
       go_roundw
       case rel => exact ⟨r + 1,zz',by omega,by go_num,HZZ,HZZL,⟨_,_,rfl⟩,HO6,hb6⟩
       case measure => simp [intOf] <;> omega
      ·have hmv:zz = y.map (fun x => (base:Int) + x):=by rw [hzz.out,List.take_of_length_le (by omega)]
       have HMV:=Lib.hid hmv
       have hzb5:zz.length ≤ 16:=by rw [hzzl.out];omega
       have gnw:ww.cell? ⟨bn,fn + k,none⟩ = some (.int .i64 (nq:Int)):=((hbz.trans (hbel5.mono hszz)).cell (p:=⟨bn,fn + k,none⟩) hbn).trans gn
       have hbm1:=HZB.out
       have iz1:(0:Int) ≤ (k:Int):=by omega
       have iz2:(k:Int) < (nodes.length:Int):=by omega
       have fin:∀ (mv:List Int) (om:Option Addr) (cm:Nat) (w7:World),mv = movedL base q y nq→Own (RS RI) wz.heap.size w7.heap.size w7 [.slice om mv.length cm] mv→Below wz.heap.size wz w7 →
         ∃ G,OwnF (RS RI) G w7 [.slice om mv.length cm] mv∧(∀ b,b ∈ G→b ∉ F')∧OwnF (RS (RS RI)) F' w7 [.slice o4 z.length c4] z∧(∀ b,b ∈ G→w2.heap.size ≤ b):=by
        intro mv om cm w7 _ hm hb7
        obtain ⟨G,hG,hGb⟩:=OwnF.of hm
        exact ⟨G,hG,fun b hb hm => by have:=(hGb b hb).1;have:=hzlt b hm;omega,hown4.out.frame (fun b hb => hb7.block b (hzlt b hb)),fun b hb => by have:=(hGb b hb).1;omega⟩
       have FIN:=Lib.hid fin
       clear hmv fin
       by_cases hq0:q = 0
       ·subst hq0
        have hqe:(((0:Nat):Int) == 0) = true:=rfl
        go_wp2_with (at_builtin;refine StopAt (o:=⟨some 57,_,_,_,_,_⟩) ?_)
        refine Stop.go ?_
        refine wpList_snoc (w:=ww) (R:=RI) rfl _ _ 98 rfl 3 (.int .i64 0) 1 8 tInt rfl (.slice o5 zz.length c5) zz (nq:Int) [.int .i64 (nq:Int)] wz.heap.size ww.heap.size ww.heap.size rfl hown5.out (Own.int ⟨by omega,by omega⟩) (Nat.le_refl _) s5 3 rfl rfl (by omega) (by omega) ?_
        intro om cm w7 hown6 _ _ hbel6
        have hb7:=hbel5.trans hbel6
        obtain ⟨mv,hmv⟩:∃ mv,mv = zz ++ [(nq:Int)]:=⟨_,rfl⟩
        have HMD:Hid (mv = movedL base 0 y nq):=Lib.hid (by rw [hmv,HMV.out];simp [movedL])
        have e1:zz.length + 1 = mv.length:=by rw [hmv];simp
        rw [← hmv,e1] at hown6
        rw [e1]
        obtain ⟨G,hG,hGd,hZ,hGb⟩:=FIN.out mv om cm w7 HMD.out hown6 hb7
        have HG:=Lib.hid hG
        have HGD:=Lib.hid hGd
        have HZ:=Lib.hid hZ
        have HGB:=Lib.hid hGb
        clear hown6 hbel6 hown5 e1 hmv hG hGd hZ hGb
        go_wp2_with (at_builtin;refine StopAt (o:=⟨some 61,_,_,_,_,_⟩) ?_)
        refine Stop.go ?_
        refine wpList_snocF (w:=w7) (R:=RS RI) rfl _ _ 118 rfl 98 (.slice none 0 0) 1 24 tIntS rfl (.slice o4 z.length c4) z mv [.slice om mv.length cm] F' G rfl HZ.out HG.out HGD.out 98 rfl rfl (by omega) (by omega) ?_
        intro oa8 cap8 w8 F8 hown8 _ _ hF8 hch8
        obtain ⟨z',hz'⟩:∃ z',z' = z ++ [mv]:=⟨_,rfl⟩
        have HZ':Hid (z' = near ++ addTo base nvs nq (0 + 1)):=Lib.hid (by rw [hz',hz.out,HAD.out,← HMD.out,List.append_assoc])
        have e2:z.length + 1 = z'.length:=by rw [hz'];simp
        have HZL':Hid (z'.length = base + (0 + 1)):=Lib.hid (by have:=hzl.out;omega)
        have s7:=hb7.size
        have HF8:Hid (∀ b,b ∈ F8→b ∈ F ∨ w2.heap.size ≤ b):=Lib.hid (fun b hb => by
         rcases hF8 b hb with h|h|h
         ·exact hF4.out b h
         ·exact .inr (HGB.out b h)
         ·right;omega)
        have HCH:Hid (ChgF F w2 w8):=Lib.hid ((hch4.out.trans (Below.chgF hb7)).trans' hch8 (fun x hx => hF4.out x hx))
        rw [← hz',e2] at hown8
        have HO8:=Lib.hid hown8
        rw [e2]
        clear hown8 hF8 hch8 e2 hz'
        go_wp2_with fail
        go_roundw
        case rel => exact ⟨0 + 1,F8,z',by omega,by first|go_num|rfl,HZ',HZL',⟨_,_,rfl⟩,HO8,HF8,HCH⟩
        case measure => simp [intOf] <;> omega
       ·have hqe:((q:Int) == 0) = false:=by simp;omega
        have hb7:=hbel5
        have HMD:Hid (zz = movedL base q y nq):=Lib.hid (by rw [HMV.out];simp [movedL,hq0])
        obtain ⟨G,hG,hGd,hZ,hGb⟩:=FIN.out zz o5 c5 ww HMD.out hown5.out hb7
        have HG:=Lib.hid hG
        have HGD:=Lib.hid hGd
        have HZ:=Lib.hid hZ
        have HGB:=Lib.hid hGb
        clear hG hGd hZ hGb hown5
        go_wp2_with (at_builtin;refine StopAt (o:=⟨some 61,_,_,_,_,_⟩) ?_)
        refine Stop.go ?_
        refine wpList_snocF (w:=ww) (R:=RS RI) rfl _ _ 118 rfl 98 (.slice none 0 0) 1 24 tIntS rfl (.slice o4 z.length c4) z zz [.slice o5 zz.length c5] F' G rfl HZ.out HG.out HGD.out 98 rfl rfl (by omega) (by omega) ?_
        intro oa8 cap8 w8 F8 hown8 _ _ hF8 hch8
        obtain ⟨z',hz'⟩:∃ z',z' = z ++ [zz]:=⟨_,rfl⟩
        have HZ':Hid (z' = near ++ addTo base nvs nq (q + 1)):=Lib.hid (by rw [hz',hz.out,HAD.out,← HMD.out,List.append_assoc])
        have e2:z.length + 1 = z'.length:=by rw [hz'];simp
        have HZL':Hid (z'.length = base + (q + 1)):=Lib.hid (by have:=hzl.out;omega)
        have s7:=hb7.size
        have HF8:Hid (∀ b,b ∈ F8→b ∈ F ∨ w2.heap.size ≤ b):=Lib.hid (fun b hb => by
         rcases hF8 b hb with h|h|h
         ·exact hF4.out b h
         ·exact .inr (HGB.out b h)
         ·right;omega)
        have HCH:Hid (ChgF F w2 w8):=Lib.hid ((hch4.out.trans (Below.chgF hb7)).trans' hch8 (fun x hx => hF4.out x hx))
        rw [← hz',e2] at hown8
        have HO8:=Lib.hid hown8
        rw [e2]
        clear hown8 hF8 hch8 e2 hz'
        go_wp2_with fail
        go_roundw
        case rel => exact ⟨q + 1,F8,z',by omega,by first|go_num|rfl,HZ',HZL',⟨_,_,rfl⟩,HO8,HF8,HCH⟩
        case measure => simp [intOf] <;> omega
    ·obtain rfl:q = x.length:=by omega
     have hzfull:z = near ++ addTo base nvs nq x.length:=hz.out
     have hgr:graftTo u nodes list (k + 1) = z.set nq (z.getD nq [] ++ [(base:Int)]):=by
      rw [HGS.out]
      unfold graft1
      rw [← HBASE.out,← HNVS.out,← hzfull,Int.toNat_natCast]
     have hnqz:nq < z.length:=by rw [hzl.out];omega
     obtain ⟨g,cap,a,hv,_,_,hgl,hgF,hcell,hra,hSET⟩:=hown4.out.setRow (R:=RS RI) rfl nq hnqz
     simp only [Value.slice.injEq,true_and] at hv
     obtain ⟨rfl,rfl⟩:=hv
     have hgd:z.getD nq [] = z[nq]:=by simp [hnqz]
     rw [hgd] at hgr
     obtain ⟨xh,hxh⟩:∃ xh,xh = z[nq]'hnqz:=⟨_,rfl⟩
     rw [← hxh] at hra hgr
     obtain ⟨oh,ch,rfl,e1,e2⟩:=hra.val
     unfold maxLen at e2
     have gnz:wz.cell? ⟨bn,fn + k,none⟩ = some (.int .i64 (nq:Int)):=(hbz.cell (p:=⟨bn,fn + k,none⟩) hbn).trans gn
     have hxlen:xh.length ≤ 26:=by
      have h1:xh = near[nq]'(by have:=HBASE.out;omega):=by
       rw [hxh]
       simp only [hzfull]
       rw [List.getElem_append_left]
      rw [h1]
      have:=HEACH.out k (near[nq]'(by have:=HBASE.out;omega)) (by rw [← hnear.out];exact List.getElem_mem _)
      have:=HLEN.out
      omega
     have HSET:=Lib.hid hSET
     have HGR:=Lib.hid hgr
     have HRA:=Lib.hid hra
     have EGC:=Lib.hid (enters (P:=Try.prog) (f:=87) Try.func87 (by kernel_rfl) rfl)
     have hzl0:z.length = base + x.length:=hzl.out
     obtain ⟨zl,hzl'⟩:∃ zl,zl = z.length:=⟨_,rfl⟩
     rw [← hzl'] at hnqz hzl0
     rw [← hzl']
     have i1:(0:Int) ≤ (k:Int):=by omega
     have i2:(k:Int) < (nodes.length:Int):=by omega
     have i3:(0:Int) ≤ (nq:Int):=by omega
     have i4:(nq:Int) < (zl:Int):=by omega
     have HZL0:=Lib.hid hzl0
     have HZLEN:=Lib.hid hzl'
     clear hSET hgr hra hgd hxh hzfull hzl' hzl0
     have R1:Rd (RS RI) wz [.slice oh xh.length ch] xh:=HRA.out
     have HCL:Hid (∀ W:World,W.heap = wz.heap ∨ (∃ o,W.heap = (wz.alloc o).heap)→Calls Try.prog 87 #[.slice oh xh.length ch] W (RetO (RS RI) W xh)):=Lib.hid (fun W h => by
      refine c_slicesCloneInt _ xh W ?_ (by omega)
      rcases h with h|⟨o,h⟩
      ·exact R1.of_heap h
      ·exact (R1.below ((Below.refl _ _).alloc (Nat.le_refl _) o) (Nat.le_refl _)).of_heap h)
     have hb64:In64 (base:Int):=by unfold In64;omega
     obtain ⟨xb,hxb⟩:∃ xb,xh ++ [(base:Int)] = xb:=⟨_,rfl⟩
     have hxbl:xb.length ≤ 27:=by rw [← hxb,List.length_append,List.length_singleton];omega
     have HXB:=Lib.hid hxb
     rw [hxb] at HGR
     have RL:rdL RI (fun b => b < wz.heap.size) wz [.int .i64 (base:Int)] [(base:Int)]:=rdL.single ⟨rfl,hb64⟩
     have HLZ:Hid (∀ W:World,W.heap = (wz.alloc (.cells #[.int .i64 (base:Int)] 3)).heap→Rd (RS RI) W [.slice (some ⟨wz.heap.size,0,none⟩) 1 1] [(base:Int)]):=Lib.hid (fun W h => Rd.lit (ds:=[.int .i64 (base:Int)]) (xs:=[(base:Int)]) RL h (by show 1 ≤ maxLen;decide))
     have HLC:Hid (∀ wc W:World,W.heap = (wc.alloc (.cells #[.int .i64 (base:Int)] 3)).heap→Rd (RS RI) W [.slice (some ⟨wc.heap.size,0,none⟩) 1 1] [(base:Int)]):=Lib.hid (fun wc W h => Rd.lit (ds:=[.int .i64 (base:Int)]) (xs:=[(base:Int)]) (w:=wc) (rdL.single ⟨rfl,hb64⟩) h (by show 1 ≤ maxLen;decide))
     have hbn1:bn < wz.heap.size:=by omega
     have hbn2:¬ bn = wz.heap.size:=by omega
     have hgl2:¬ g = wz.heap.size:=by omega
     clear RL R1 hb64 hxb
     apply shareKey (fun (uc lit:Value) (oa9:Option Addr) (cap9:Nat) (wd:World) => ∃ F9,OwnF (RS (RS RI)) F9 (wd.setCell ⟨g,nq,none⟩ (.slice oa9 xb.length cap9)) [.slice (some ⟨g,0,none⟩) z.length c4] (z.set nq xb)∧(∀ b,b ∈ F9→b ∈ F' ∨ wz.heap.size ≤ b)∧ChgF F' wz (wd.setCell ⟨g,nq,none⟩ (.slice oa9 xb.length cap9)))
     case use =>
      intro KEY
      go_wp2_with fail
      go_region_law (first
       | (refine step_call rfl 87 _ _ rfl EGC.out #[.slice oh xh.length ch] (by simp [Act.eval]) ?_;refine Calls.mono (HCL.out _ (by first|exact .inl rfl|exact .inr ⟨_,rfl⟩)) ?_;rintro e wc ⟨uc,rfl,oc,bc⟩;have hbc:Below wz.heap.size wz wc:=(by first|exact Below.of_heap_eq bc rfl rfl rfl rfl|exact Below.of_alloc_heap bc rfl rfl rfl rfl);have oc':Own (RS RI) wz.heap.size wc.heap.size wc [uc] xh:=oc.mono (by simp) (Nat.le_refl _);have gnc:=(hbc.cell (p:=⟨bn,fn + k,none⟩) hbn1).trans gnz;have hbn3:bn < wc.heap.size:=Nat.lt_of_lt_of_le hbn1 hbc.size;clear oc;refine ⟨_,rfl,?_⟩)
       | (refine step_extI rfl _ _ 98 rfl 3 tInt uc xh wz.heap.size wc.heap.size rfl (by first|exact oc'|exact oc'.below ((Below.refl wc.heap.size wc).alloc (Nat.le_refl _) _) (Nat.le_refl _)) _ [(base:Int)] rfl (by first|exact HLC.out wc _ rfl|exact Rd.below (HLZ.out _ (by rfl)) bc (Nat.le_refl _)) (by first|exact Nat.le_refl _|simp) hbc.size (by simp;omega) xb HXB.out ?_;intro oa9 cap9 wd od d1 d2 bd;obtain ⟨Gd,hGd,hGb⟩:=OwnF.of od;have hbd:Below wz.heap.size wz wd:=(by first|exact hbc.trans bd|exact (hbc.alloc hbc.size _).trans bd);have gnd:=(hbd.cell (p:=⟨bn,fn + k,none⟩) hbn1).trans gnz;obtain ⟨f1,f2,F9,hF9,hs9,hc9⟩:=HSET.out wd xb _ Gd hbd hGd (fun b hb => (hGb b hb).1);generalize hl1:Value.slice (some ⟨wc.heap.size,0,none⟩) 1 1 = lit1;clear hl1;generalize hl2:Value.slice (some ⟨wz.heap.size,0,none⟩) 1 1 = lit2;clear hl2))
      all_goals first|exact KEY uc lit1 oa9 cap9 wd ⟨F9,hF9,hs9,hc9⟩|exact KEY uc lit2 oa9 cap9 wd ⟨F9,hF9,hs9,hc9⟩
     case key =>
      rintro uc lit oa9 cap9 wd ⟨F9,hF9,hs9,hc9⟩
      have HFIN:Hid (z.set nq xb = graftTo u nodes list (k + 1)):=Lib.hid HGR.out.symm
      obtain ⟨z9,hz9⟩:∃ z9,z9 = z.set nq xb:=⟨_,rfl⟩
      rw [← hz9] at HFIN hF9
      have hl9:zl = z9.length:=by rw [hz9,List.length_set];exact HZLEN.out
      have HB9:Hid (∀ b,b ∈ F9→w.heap.size ≤ b):=Lib.hid (fun b hb => by
       rcases hs9 b hb with h|h
       ·rcases hF4.out b h with h|h
        ·exact hF.out b h
        ·omega
       ·omega)
      have hbl9:Below w.heap.size w _:=hbz.trans (hc9.below (B:=w.heap.size) (by omega) (fun b hb => by
       rcases hF4.out b hb with h|h
       ·exact hF.out b h
       ·omega))
      have hl8:z.length = z9.length:=by rw [hz9,List.length_set]
      rw [hl8] at hF9
      have HF9:=Lib.hid hF9
      have HL9:=Lib.hid hl9
      clear hz9 hF9 hs9 hc9 hl9 hl8
      go_wp2_with fail
      go_roundw
      case rel => exact ⟨k + 1,F9,z9,by omega,by go_num,Lib.hid HFIN.out,⟨_,_,by rw [← HL9.out]⟩,(by have:=HF9.out;rw [← HL9.out] at this;exact Lib.hid this),HB9,hbl9⟩
      case measure => simp [intOf] <;> omega
  ·have hkk:k = ll:=by omega
   have hfin:near = graftTo u nodes list ll:=by rw [hnear.out,hkk]
   have htf:=HTF.out wo (.slice o2 near.length c2) (by rw [← hfin];exact hown.out.rd)
   clear hfin hkk
   go_wp2_with fail
   refine htf.mono ?_
   rintro e w3 ⟨u3,rfl,o3,b3⟩
   go_wp2_with fail
   go_ret
   exact ⟨_,rfl,o3.mono hsz1 (Nat.le_refl _),hbel.trans (b3.mono hsz1)⟩
end Go.Proofs.Ytgngidchldajhaa
namespace Go.Proofs.Ytgngidchldajhaa
open Go.RowKit
def ckOf (xs:List (List Int)):Int:=if xs.all lev8 = true then (if sumLen xs ≤ 8 then 0 else 3) else 1
theorem sumLen_le8:∀ xs:List (List Int),xs.all lev8 = true→sumLen xs ≤ 8 * xs.length
 | [],_ => by simp [sumLen]
 | x :: xs,h => by
  rw [List.all_cons,Bool.and_eq_true] at h
  have:=sumLen_le8 xs h.2
  have:=lev8_len h.1
  simp only [sumLen,List.map_cons,List.sum_cons,List.length_cons] at *
  omega
set_option maxRecDepth 100000 in
set_option maxHeartbeats 400000 in
theorem c_impl_checkGraft (v:Value) (xs:List (List Int)) (w:World) (h:Rd (RS (RS RI)) w [v] xs) (hl:xs.length ≤ 1000000):Calls Try.prog 46 #[v] w (RetS w (.int .i64 (ckOf xs))):=by
 have hal:=c_impl_areLevels v xs w h
 have hnd:=c_impl_nodesIn v xs w h
 unfold ckOf
 cases hall:xs.all lev8
 ·rw [hall] at hal
  clear hall
  go_enter Try.func46,Try.ntmps46
  go_wp2_with fail
  refine hal.mono ?_
  rintro e w' ⟨rfl,rfl⟩
  go_wp2_with fail
  go_ret
  exact ⟨rfl,rfl⟩
 ·rw [hall] at hal
  have h8:=sumLen_le8 xs hall
  rw [nodesB_eq xs (by omega)] at hnd
  by_cases hs:sumLen xs ≤ 8
  ·have h1:¬ ((sumLen xs:Nat):Int) > 8:=by omega
   have h2:¬ (8:Int) < ((sumLen xs:Nat):Int):=by omega
   clear hall
   go_enter Try.func46,Try.ntmps46
   go_wp2_with fail
   refine hal.mono ?_
   rintro e w' ⟨rfl,rfl⟩
   go_wp2_with fail
   refine hnd.mono ?_
   rintro e w' ⟨rfl,rfl⟩
   go_wp2_with fail
   go_ret
   exact ⟨by simp,rfl⟩
  ·have h1:((sumLen xs:Nat):Int) > 8:=by omega
   have h2:(8:Int) < ((sumLen xs:Nat):Int):=by omega
   clear hall
   go_enter Try.func46,Try.ntmps46
   go_wp2_with fail
   refine hal.mono ?_
   rintro e w' ⟨rfl,rfl⟩
   go_wp2_with fail
   refine hnd.mono ?_
   rintro e w' ⟨rfl,rfl⟩
   go_wp2_with fail
   go_ret
   exact ⟨by simp,rfl⟩
end Go.Proofs.Ytgngidchldajhaa
namespace Go.Proofs.Ytgngidchldajhaa
open Go.RowKit
theorem grs_len (u v:List Int):(grs u v).length = u.length:=by simp [grs]
theorem grs_take_succ (u v:List Int) (i:Nat) (h:i < u.length):(grs u v).take (i + 1) = (grs u v).take i ++ [canon (graftL u i v)]:=by
 rw [List.take_succ_eq_append_getElem (by rw [grs_len];exact h)]
 simp [grs]
theorem graftL_len {u v:List Int} {n:Nat} (hn:n < u.length):(graftL u n v).length = u.length + v.length:=by
 have:=endOf_le hn
 unfold graftL
 simp only [List.length_append,List.length_take,List.length_map,List.length_drop]
 omega
theorem grs_size {u v:List Int} (hu:lev8 u = true) (hv:lev8 v = true) (h:u.length + v.length ≤ 8):∀ b ∈ grs u v,b.length ≤ 8:=fun b hb => by
 unfold grs at hb
 obtain ⟨n,hn,rfl⟩:=List.mem_map.1 hb
 have hn:=List.mem_range.1 hn
 rw [canon_len (lev8_lev ((gs_ok hu hv h).1 n hn)),graftL_len hn]
 exact h
def gsOf (u v:List Int):List (List Int × Int) × Int :=
 if (lev8 u && lev8 v) = true then (if u.length + v.length ≤ 8 then (sumOf (grs u v),0) else ([],3)) else ([],1)
theorem a_cloneInt (xs:List Int) (h:xs.length ≤ 1000000000):AFn Try.prog 87 [eL xs] (· = [.own 1 (xs.map eI) true]) :=
 afn_L_o (enters_of Try.func87 rfl rfl) (fun u w h' => c_slicesCloneInt u xs w h' h)
theorem a_grafted (u v:List Int) (n:Nat) (hu:lev8 u = true) (hc:canon u = u) (hv:lev8 v = true) (hn:n < u.length) (h8:u.length + v.length ≤ 8):AFn Try.prog 86 [eL u,eL [(n:Int)],eLL [v]] (· = [.own 1 ((canon (graftL u n v)).map eI) true]):=by
 have hg:=graft_ok hu hn (lev8_lev hv) h8
 rw [hc] at hg
 rw [← hg.2.2]
 exact AFn.of_o encI (enters_of Try.func86 rfl rfl) (fun w A vs ⟨v1,_,e1,h1,v2,_,e2,h2,v3,_,e3,h3,e4⟩ => by
  subst e4;subst e3;subst e2;subst e1
  exact c_impl_grafted v1 v2 v3 u [(n:Int)] [v] w (Rd.of (rd1 h1)) (Rd.of (rd1 h2)) (Rd.of (rdLL h3)) hu (by simp [hv]) rfl (by simp;omega) (by simp [sumLen];omega) hg.1)
theorem a_graftAll1 (u v:List Int) (n:Nat) (out:List (List Int)) (hu:lev8 u = true) (hc:canon u = u) (hv:lev8 v = true) (hn:n < u.length) (h8:u.length + v.length ≤ 8) (ho:out.length ≤ 1000) :
  AOw Try.prog 48 [eL u,eL [(n:Int)],eLL [v]] 1 (out.map eL) [] (· = [.own 1 ((out ++ [canon (graftL u n v)]).map eL) false]):=by
 have hg:=a_grafted u v n hu hc hv hn h8
 simp only [eLL,eL,List.map_cons,List.map_nil,eI] at hg
 have q1:=big_le (n:=out.length + 1) (by omega)
 have q2:=big_mul (n:=out.length + 1) (c:=24) (by omega) (by omega)
 refine AOw.of_runs (cfg_ok 38) Try.func48 rfl rfl rfl (by simp only [List.length_cons,List.length_nil];decide) ?_
 have hres:Try.f48.results.toList = [.tmp 8]:=rfl
 have hrts:Try.f48.resultTypes.toList = [34]:=rfl
 simp only [List.length_cons,List.length_nil,List.nil_append,List.cons_append,argRegs,argAV1,eL,eI,eLL,eB,Nat.zero_add,Nat.reduceAdd]
 intro M
 refine RunK.of ?_
 repeat' (first|with_reducible (first|refine Q1 ?_|refine Q2 ?_|refine Q3 ?_|refine Q4 ?_|refine Q5 ?_|refine Q6 ?_|refine Q7 ?_|refine Q8 ?_|refine Q9 ?_|refine Qa ?_|refine Qb ?_|refine Qc ?_|refine Qd ?_|refine Qe ?_|refine Qf ?_)|((with_reducible refine Qo ?_ ?_);focus rfl)|((with_reducible first|refine QT 25 (l:=?_) ?_ ?_|refine QF 25 (l:=?_) ?_ ?_);rotate_left 1;focus (simp only [Zu,Nat.reduceSub,Nat.reduceBEq];with_reducible rfl))|((with_reducible first|refine QS (cfg_ok 38) ((Tab.none.at' 86 hg)) (s':=?_) ?_ ?_|refine QC (b:=?_) ?_ ?_);rotate_left 1;focus ((with_reducible refine QW ?_);simp only [Zg,seval,if_true,if_false,reduceCtorEq,Nat.reduceEqDiff,eLL,eL,eI,List.length_map,q1,q2];with_reducible rfl)))
 (refine Ends.mk (by simp) (rs:=?_) (ks:=?_) hres hrts ?_ ?_ ?_;rotate_left 2;(focus (simp only [Ze,Zg,seval,if_true,if_false,reduceCtorEq,Nat.reduceEqDiff,List.map_append,List.map_cons,List.map_nil,eL];with_reducible rfl));(focus simp);focus (first|with_reducible rfl|(simp only [Zv,List.map_append,List.map_cons,List.map_nil,eL];done)))
set_option maxHeartbeats 4000000 in
theorem a_graftAll0 (u v:List Int) (hu:lev8 u = true) (hc:canon u = u) (hv:lev8 v = true) (h8:u.length + v.length ≤ 8) :
  AOw Try.prog 48 [eL u,eL [],eLL [v]] 1 [] [] (· = [.own 1 ((grs u v).map eL) false]):=by
 have hcl:=a_cloneInt [] (by simp)
 simp only [eL,List.map_nil] at hcl
 refine AOw.of_runs (cfg_ok 38) Try.func48 rfl rfl rfl (by simp only [List.length_cons,List.length_nil];decide) ?_
 have hres:Try.f48.results.toList = [.tmp 8]:=rfl
 have hrts:Try.f48.resultTypes.toList = [34]:=rfl
 simp only [List.length_cons,List.length_nil,List.nil_append,List.cons_append,argRegs,argAV1,eL,eI,eLL,eB,Nat.zero_add,Nat.reduceAdd]
 intro M
 refine RunK.of ?_
 have z1:(((0:Nat):Int) == ((1:Nat):Int)) = false:=by decide
 repeat' (first|with_reducible (first|refine Q1 ?_|refine Q2 ?_|refine Q3 ?_|refine Q4 ?_|refine Q5 ?_|refine Q6 ?_|refine Q7 ?_|refine Q8 ?_|refine Q9 ?_|refine Qa ?_|refine Qb ?_|refine Qc ?_|refine Qd ?_|refine Qe ?_|refine Qf ?_)|((with_reducible refine Qo ?_ ?_);focus rfl)|((with_reducible first|refine QT 25 (l:=?_) ?_ ?_|refine QF 25 (l:=?_) ?_ ?_);rotate_left 1;focus (simp only [Zu,Nat.reduceSub,Nat.reduceBEq];with_reducible rfl))|((with_reducible first|refine QS (cfg_ok 38) Tab.none (s':=?_) ?_ ?_|refine QC (b:=?_) ?_ ?_);rotate_left 1;focus ((with_reducible refine QW ?_);simp only [Zg,seval,if_true,if_false,reduceCtorEq,Nat.reduceEqDiff,eLL,eL,eI,List.length_map,List.map_nil,List.map_cons,z1];with_reducible rfl)))
 refine RunK.loop (β:=Nat) (γ:=Unit) (fun i => ⟨[(0,.c (.val (.sl 1 (u.map eI)))),(1,.c (.val (.sl 1 []))),(2,.c (.val (.sl 1 [[.sl 1 (v.map eI)]]))),(3,.c (.own 3 ((grs u v).take i).length)),(23,.c (.val (.int u.length))),(24,.c (.val (.int i)))],[(3,.row 1 (((grs u v).take i).map eL) false)]⟩) (fun i => i ≤ u.length) (fun i => u.length - i)
  (fun _ => ⟨[(3,.c (.own 3 (grs u v).length))],[(3,.row 1 ((grs u v).map eL) false)]⟩) (fun _ => True) 0 (Nat.zero_le _) ?_ ?_ ?_
 ·(repeat' (first|with_reducible refine Qn|((with_reducible refine Qr ?_ ?_);focus (first|with_reducible rfl|(simp only [Zz,Nat.reduceBEq,List.take_zero,List.map_nil,List.length_map];done)|rfl))|((with_reducible refine Qj (o':=?_) ?_ ?_ ?_);rotate_left 1;focus rfl)|((with_reducible refine Qw ?_ ?_);(focus (first|with_reducible rfl|(simp only [Zv,List.take_zero,List.map_nil,List.length_map];done)));focus (first|exact id|exact (fun h => nomatch h)|exact (fun _ => rfl)))))
 ·rintro i hi
  have hi:i ≤ u.length:=hi
  have hw:=w64_succ (n:=i) (by omega)
  by_cases h:i < u.length
  ·have htk:=grs_take_succ u v i h
   have hlr:((grs u v).take i).length ≤ 8:=by rw [List.length_take,grs_len];omega
   have hih:=a_graftAll1 u v i ((grs u v).take i) hu hc hv h h8 (by omega)
   rw [← htk] at hih
   simp only [eLL,eL,List.map_cons,List.map_nil,eI] at hih
   have i1:((i:Int) < (u.length:Int)) = True:=eq_true (by omega)
   repeat' (first|with_reducible (first|refine Q1 ?_|refine Q2 ?_|refine Q3 ?_|refine Q4 ?_|refine Q5 ?_|refine Q6 ?_|refine Q7 ?_|refine Q8 ?_|refine Q9 ?_|refine Qa ?_|refine Qb ?_|refine Qc ?_|refine Qd ?_|refine Qe ?_|refine Qf ?_)|((with_reducible refine Qo ?_ ?_);focus rfl)|((with_reducible first|refine QT 25 (l:=?_) ?_ ?_|refine QF 25 (l:=?_) ?_ ?_);rotate_left 1;focus (simp only [Zu,Nat.reduceSub,Nat.reduceBEq];with_reducible rfl))|((with_reducible first|refine QS (cfg_ok 38) Tab.none (s':=?_) ?_ ?_|refine QC (b:=?_) ?_ ?_);rotate_left 1;focus ((with_reducible refine QW ?_);simp only [Zg,seval,if_true,if_false,reduceCtorEq,Nat.reduceEqDiff,i1];with_reducible rfl)))
   refine RunK.regCut (cfg_ok 38) (Tab.none.at' 87 hcl) 8 (s1:=?_) ?_ ?_
   rotate_left 1
   focus (refine Work.mk ?_;simp only [Zg,seval,if_true,if_false,reduceCtorEq,Nat.reduceEqDiff];with_reducible rfl)
   simp only [List.toList_toArray,List.drop_succ_cons,List.drop_zero]
   refine ROps.frzs [32] ?_
   refine ROps.opsT (cfg_ok 38) (T:=Tab.none.own' 48 3 hih) (s':=?_) ?_ ?_
   rotate_left 1
   focus (simp only [Zg,seval,if_true,if_false,reduceCtorEq,Nat.reduceEqDiff,Tab.own',atOwn_eq,eL];with_reducible rfl)
   repeat' (first|with_reducible (first|refine Q1 ?_|refine Q2 ?_|refine Q3 ?_|refine Q4 ?_|refine Q5 ?_|refine Q6 ?_|refine Q7 ?_|refine Q8 ?_|refine Q9 ?_|refine Qa ?_|refine Qb ?_|refine Qc ?_|refine Qd ?_|refine Qe ?_|refine Qf ?_)|((with_reducible refine Qo ?_ ?_);focus rfl)|((with_reducible first|refine QT 25 (l:=?_) ?_ ?_|refine QF 25 (l:=?_) ?_ ?_);rotate_left 1;focus (simp only [Zu,Nat.reduceSub,Nat.reduceBEq];with_reducible rfl))|((with_reducible first|refine QS (cfg_ok 38) Tab.none (s':=?_) ?_ ?_|refine QC (b:=?_) ?_ ?_);rotate_left 1;focus ((with_reducible refine QW ?_);simp only [Zg,seval,if_true,if_false,reduceCtorEq,Nat.reduceEqDiff,hw];with_reducible rfl)))
   refine roundK.on (i + 1) ⟨h,by omega⟩ ?_
   (repeat' (first|with_reducible refine Qn|((with_reducible refine Qr ?_ ?_);focus (first|with_reducible rfl|(simp only [Zz,Nat.reduceBEq,List.length_map];done)|rfl))|((with_reducible refine Qj (o':=?_) ?_ ?_ ?_);rotate_left 1;focus rfl)|((with_reducible refine Qw ?_ ?_);(focus (first|with_reducible rfl|(simp only [Zv,List.length_map];done)));focus (first|exact id|exact (fun h => nomatch h)|exact (fun _ => rfl)))))
  ·have i1:((i:Int) < (u.length:Int)) = False:=eq_false (by omega)
   have hall:(grs u v).take i = grs u v:=List.take_of_length_le (by rw [grs_len];omega)
   rw [hall]
   repeat' (first|with_reducible (first|refine Q1 ?_|refine Q2 ?_|refine Q3 ?_|refine Q4 ?_|refine Q5 ?_|refine Q6 ?_|refine Q7 ?_|refine Q8 ?_|refine Q9 ?_|refine Qa ?_|refine Qb ?_|refine Qc ?_|refine Qd ?_|refine Qe ?_|refine Qf ?_)|((with_reducible refine Qo ?_ ?_);focus rfl)|((with_reducible first|refine QT 25 (l:=?_) ?_ ?_|refine QF 25 (l:=?_) ?_ ?_);rotate_left 1;focus (simp only [Zu,Nat.reduceSub,Nat.reduceBEq];with_reducible rfl))|((with_reducible first|refine QS (cfg_ok 38) Tab.none (s':=?_) ?_ ?_|refine QC (b:=?_) ?_ ?_);rotate_left 1;focus ((with_reducible refine QW ?_);simp only [Zg,seval,if_true,if_false,reduceCtorEq,Nat.reduceEqDiff,i1];with_reducible rfl)))
   refine roundK.out () trivial ?_
   (repeat' (first|with_reducible refine Qn|((with_reducible refine Qr ?_ ?_);focus (first|with_reducible rfl|(simp only [Zz,Nat.reduceBEq];done)|rfl))|((with_reducible refine Qj (o':=?_) ?_ ?_ ?_);rotate_left 1;focus rfl)|((with_reducible refine Qw ?_ ?_);(focus (first|with_reducible rfl|(simp only [Zv];done)));focus (first|exact id|exact (fun h => nomatch h)|exact (fun _ => rfl)))))
 ·rintro _ _
  repeat' (first|with_reducible (first|refine Q1 ?_|refine Q2 ?_|refine Q3 ?_|refine Q4 ?_|refine Q5 ?_|refine Q6 ?_|refine Q7 ?_|refine Q8 ?_|refine Q9 ?_|refine Qa ?_|refine Qb ?_|refine Qc ?_|refine Qd ?_|refine Qe ?_|refine Qf ?_)|((with_reducible refine Qo ?_ ?_);focus rfl)|((with_reducible first|refine QT 25 (l:=?_) ?_ ?_|refine QF 25 (l:=?_) ?_ ?_);rotate_left 1;focus (simp only [Zu,Nat.reduceSub,Nat.reduceBEq];with_reducible rfl))|((with_reducible first|refine QS (cfg_ok 38) Tab.none (s':=?_) ?_ ?_|refine QC (b:=?_) ?_ ?_);rotate_left 1;focus ((with_reducible refine QW ?_);simp only [Zg,seval,if_true,if_false,reduceCtorEq,Nat.reduceEqDiff];with_reducible rfl)))
  (refine Ends.mk (by simp) (rs:=?_) (ks:=?_) hres hrts ?_ ?_ ?_;rotate_left 2;(focus (simp only [Ze,Zg,seval,if_true,if_false,reduceCtorEq,Nat.reduceEqDiff];with_reducible rfl));(focus simp);focus (first|with_reducible rfl|(simp only [Zv];done)))
theorem a_checkGraft (xs:List (List Int)) (h:xs.length ≤ 1000):AFn Try.prog 46 [eLL xs] (· = [.val (.int (ckOf xs))]) :=
 afn_LLL_s (v:=.int .i64 _) (enters_of Try.func46 rfl rfl) (fun _ _ => rdV_int.2 ⟨rfl,by unfold ckOf In64;split <;> (try split) <;> omega⟩) (fun u w h' => c_impl_checkGraft u xs w h' (by omega))
set_option maxHeartbeats 2000000 in
theorem a_impl_GraftSum (u v:List Int) (hsu:u.length ≤ 1000000000) (hsv:v.length ≤ 1000000000):AFn Try.prog 9 [eL u,eL v] (· = [.own 2 ((gsOf u v).1.map eCt) true,.val (.int (gsOf u v).2)]):=by
 have hck:=a_checkGraft [u,v] (by simp)
 have hs:sumLen [u,v] = u.length + v.length:=by simp [sumLen]
 have ha:[u,v].all lev8 = (lev8 u && lev8 v):=by simp
 simp only [eLL,eL,List.map_cons,List.map_nil] at hck
 have b1:((1:Int) != 0) = true:=by decide
 have b3:((3:Int) != 0) = true:=by decide
 have b0:((0:Int) != 0) = false:=by decide
 unfold gsOf
 refine AFn.of_runs (cfg_ok 20) Try.func9 rfl rfl rfl (by simp only [List.length_cons,List.length_nil];decide) ?_
 have hres:Try.f9.results.toList = [.tmp 4,.tmp 5]:=rfl
 have hrts:Try.f9.resultTypes.toList = [31,2]:=rfl
 simp only [argRegs,argAV1,eL,eI,eLL,eB,Nat.zero_add,Nat.reduceAdd]
 intro M
 refine RunK.of ?_
 by_cases hb:(lev8 u && lev8 v) = true
 rotate_left
 ·have hk:ckOf [u,v] = 1:=by unfold ckOf;rw [ha,if_neg hb]
  rw [hk] at hck
  rw [if_neg hb]
  repeat' (first|with_reducible (first|refine Q1 ?_|refine Q2 ?_|refine Q3 ?_|refine Q4 ?_|refine Q5 ?_|refine Q6 ?_|refine Q7 ?_|refine Q8 ?_|refine Q9 ?_|refine Qa ?_|refine Qb ?_|refine Qc ?_|refine Qd ?_|refine Qe ?_|refine Qf ?_)|((with_reducible refine Qo ?_ ?_);focus rfl)|((with_reducible first|refine QT 7 (l:=?_) ?_ ?_|refine QF 7 (l:=?_) ?_ ?_);rotate_left 1;focus (simp only [Zu,Nat.reduceSub,Nat.reduceBEq];with_reducible rfl))|((with_reducible first|refine QS (cfg_ok 20) ((Tab.none.at' 46 hck)) (s':=?_) ?_ ?_|refine QC (b:=?_) ?_ ?_);rotate_left 1;focus ((with_reducible refine QW ?_);simp only [Zg,seval,if_true,if_false,reduceCtorEq,Nat.reduceEqDiff,b1];with_reducible rfl)))
  (refine Ends.mk (by simp) (rs:=?_) (ks:=?_) hres hrts ?_ ?_ ?_;rotate_left 2;(focus (simp only [Ze,Zg,seval,if_true,if_false,reduceCtorEq,Nat.reduceEqDiff];with_reducible rfl));(focus simp);focus (first|with_reducible rfl|(simp only [Zv];done)))
 rw [if_pos hb]
 by_cases h8:u.length + v.length ≤ 8
 rotate_left
 ·have hk:ckOf [u,v] = 3:=by unfold ckOf;rw [ha,if_pos hb,hs,if_neg h8]
  rw [hk] at hck
  rw [if_neg h8]
  repeat' (first|with_reducible (first|refine Q1 ?_|refine Q2 ?_|refine Q3 ?_|refine Q4 ?_|refine Q5 ?_|refine Q6 ?_|refine Q7 ?_|refine Q8 ?_|refine Q9 ?_|refine Qa ?_|refine Qb ?_|refine Qc ?_|refine Qd ?_|refine Qe ?_|refine Qf ?_)|((with_reducible refine Qo ?_ ?_);focus rfl)|((with_reducible first|refine QT 7 (l:=?_) ?_ ?_|refine QF 7 (l:=?_) ?_ ?_);rotate_left 1;focus (simp only [Zu,Nat.reduceSub,Nat.reduceBEq];with_reducible rfl))|((with_reducible first|refine QS (cfg_ok 20) ((Tab.none.at' 46 hck)) (s':=?_) ?_ ?_|refine QC (b:=?_) ?_ ?_);rotate_left 1;focus ((with_reducible refine QW ?_);simp only [Zg,seval,if_true,if_false,reduceCtorEq,Nat.reduceEqDiff,b3];with_reducible rfl)))
  (refine Ends.mk (by simp) (rs:=?_) (ks:=?_) hres hrts ?_ ?_ ?_;rotate_left 2;(focus (simp only [Ze,Zg,seval,if_true,if_false,reduceCtorEq,Nat.reduceEqDiff];with_reducible rfl));(focus simp);focus (first|with_reducible rfl|(simp only [Zv];done)))
 have hk:ckOf [u,v] = 0:=by unfold ckOf;rw [ha,if_pos hb,hs,if_pos h8]
 rw [hk] at hck
 rw [if_pos h8]
 rw [Bool.and_eq_true] at hb
 obtain ⟨hu,hv⟩:=hb
 have hc8:=lev8_canon hu
 have hcl:=canon_len (lev8_lev hu)
 have hca:=a_canonical u (lev8_lev hu) (lev8_len hu)
 have hga:=(a_graftAll0 (canon u) v hc8 (canon_idem (lev8_lev hu)) hv (by omega)).nil (by decide)
 have hgz:=sumLen_le (grs (canon u) v) (grs_size hc8 hv (by omega))
 rw [grs_len] at hgz
 have hct:=a_counted (grs (canon u) v) (by rw [grs_len];omega) (by omega)
 rw [(gs_ok hu hv h8).2] at hct
 simp only [eLL,eL,List.map_nil,List.map_cons] at hca hct
 repeat' (first|with_reducible (first|refine Q1 ?_|refine Q2 ?_|refine Q3 ?_|refine Q4 ?_|refine Q5 ?_|refine Q6 ?_|refine Q7 ?_|refine Q8 ?_|refine Q9 ?_|refine Qa ?_|refine Qb ?_|refine Qc ?_|refine Qd ?_|refine Qe ?_|refine Qf ?_)|((with_reducible refine Qo ?_ ?_);focus rfl)|((with_reducible first|refine QT 7 (l:=?_) ?_ ?_|refine QF 7 (l:=?_) ?_ ?_);rotate_left 1;focus (simp only [Zu,Nat.reduceSub,Nat.reduceBEq];with_reducible rfl))|((with_reducible first|refine QS (cfg_ok 20) ((Tab.none.at' 46 hck)) (s':=?_) ?_ ?_|refine QC (b:=?_) ?_ ?_);rotate_left 1;focus ((with_reducible refine QW ?_);simp only [Zg,seval,if_true,if_false,reduceCtorEq,Nat.reduceEqDiff,b0];with_reducible rfl)))
 refine RunK.regCut (cfg_ok 20) (Tab.none.at' 49 hca) 4 (s1:=?_) ?_ ?_
 rotate_left 1
 focus (refine Work.mk ?_;simp only [Zg,seval,if_true,if_false,reduceCtorEq,Nat.reduceEqDiff];with_reducible rfl)
 simp only [List.toList_toArray,List.drop_succ_cons,List.drop_zero]
 refine ROps.frzs [15,17] ?_
 refine ROps.callNil (cfg_ok 20) (d:=18) (g:=48) (xs:=[.tmp 15,.const (.slice none 0 0),.tmp 17]) (tx:=[27,98,34]) (pre:=[eL (canon u),eL [],eLL [v]]) rfl (by decide) rfl rfl rfl rfl rfl rfl hga rfl ?_
 refine ROps.opsT (cfg_ok 20) (T:=Tab.none.at' 47 hct) (s':=?_) ?_ ?_
 rotate_left 1
 focus (simp only [Zg,seval,if_true,if_false,reduceCtorEq,Nat.reduceEqDiff];with_reducible rfl)
 repeat' (first|with_reducible (first|refine Q1 ?_|refine Q2 ?_|refine Q3 ?_|refine Q4 ?_|refine Q5 ?_|refine Q6 ?_|refine Q7 ?_|refine Q8 ?_|refine Q9 ?_|refine Qa ?_|refine Qb ?_|refine Qc ?_|refine Qd ?_|refine Qe ?_|refine Qf ?_)|((with_reducible refine Qo ?_ ?_);focus rfl)|((with_reducible first|refine QT 7 (l:=?_) ?_ ?_|refine QF 7 (l:=?_) ?_ ?_);rotate_left 1;focus (simp only [Zu,Nat.reduceSub,Nat.reduceBEq];with_reducible rfl))|((with_reducible first|refine QS (cfg_ok 20) Tab.none (s':=?_) ?_ ?_|refine QC (b:=?_) ?_ ?_);rotate_left 1;focus ((with_reducible refine QW ?_);simp only [Zg,seval,if_true,if_false,reduceCtorEq,Nat.reduceEqDiff];with_reducible rfl)))
 (refine Ends.mk (by simp) (rs:=?_) (ks:=?_) hres hrts ?_ ?_ ?_;rotate_left 2;(focus (simp only [Ze,Zg,seval,if_true,if_false,reduceCtorEq,Nat.reduceEqDiff];with_reducible rfl));(focus simp);focus (first|with_reducible rfl|(simp only [Zv];done)))
end Go.Proofs.Ytgngidchldajhaa
namespace Go.Proofs.Ytgngidchldajhaa
open Go.RowKit
theorem AFn.val1 {P:Program} {f:FuncId} {ds:List (List D)} {k:Nat} {xs:List (List D)} (h:AFn P f ds (· = [.own k xs false])):AFn P f ds (· = [.val (.sl k xs)]):=by
 refine ⟨h.call,fun A w vs hA hr => (h.fn A w vs hA hr).mono ?_⟩
 rintro e w' ⟨v,rs,rfl,rfl,hb,us,G,X,rfl,hG1,hG2,v1,us1,G1,G2,Y1,Y2,rfl,rfl,rfl,ho,⟨og,cap,F,dd,rfl,hrow,hk,rfl,rfl,hel⟩,rfl,rfl,rfl⟩
 refine ⟨_,_,rfl,rfl,hb,[_],[],[],rfl,List.nodup_nil,(fun b hb => nomatch hb),_,[],[],[],[],[],rfl,rfl,rfl,ho,⟨?_,rfl,rfl⟩,rfl,rfl,rfl⟩
 have hel:rdR k (fun b => (A b ∨ w.heap.size ≤ b)∧b ∉ og.toList ++ []) w' dd xs:=hel
 obtain ⟨oa,c,e,h1,h2,h3,h4⟩:=slv_len hrow
 refine rdV_sl.2 ⟨oa,c,dd,e,h1,h2,h3,hel.mono (fun b hb _ => ⟨hb.1,by simp⟩),?_⟩
 cases og with
 | none =>
  left
  have:=hrow.len0
  exact List.eq_nil_of_length_eq_zero (by rw [hrow.1,this,Nat.zero_mul])
 | some g =>
  refine .inr ⟨g,0,h4,⟨.inr (hG2 g (by simp)),by simp⟩,fun j u hj => ?_⟩
  rw [Nat.zero_add]
  exact hrow.cells j u hj
theorem AFn.nil1 {P:Program} {f:FuncId} {ds:List (List D)} {k:Nat} (hk:0 < k) {Q:List Res→Prop} (h:AFn P f ([.sl k []] :: ds) Q):AFn P f ([.raw (.slice none 0 0)] :: ds) Q:=by
 refine ⟨h.call,fun A w vs hA hr => h.fn A w vs hA ?_⟩
 obtain ⟨v,us,e,h1,h2⟩:=hr
 have h1:rdV A w v (.raw (.slice none 0 0)):=h1
 obtain ⟨rfl,_⟩:=rdV_raw.1 h1
 refine ⟨_,us,e,?_,h2⟩
 exact rdV_sl.2 ⟨none,0,[],rfl,Nat.le_refl _,by unfold maxLen;omega,fun _ => rfl,rdR.nil hk,.inl rfl⟩
def SmF (f:List (List Int)):Prop:=f.length ≤ 19∧sumLen f ≤ 100
instance (f:List (List Int)):Decidable (SmF f):=inferInstanceAs (Decidable (_∧_))
theorem SmF.b {f:List (List Int)} (h:SmF f):∀ b ∈ f,b.length ≤ 1000:=fun b hb => by have:=sumLen_mem hb;have:=h.2;omega
theorem AFn.valT {P:Program} {f:FuncId} {ds:List (List D)} {k:Nat} {xs:List (List D)} (h:AFn P f ds (· = [.own k xs true])):AFn P f ds (· = [.val (.sl k xs)]):=by
 refine ⟨h.call,fun A w vs hA hr => (h.fn A w vs hA hr).mono ?_⟩
 rintro e w' ⟨v,rs,rfl,rfl,hb,us,G,X,rfl,hG1,hG2,v1,us1,G1,G2,Y1,Y2,rfl,rfl,rfl,ho,⟨og,cap,F,dd,rfl,hrow,hk,rfl,rfl,hel⟩,rfl,rfl,rfl⟩
 refine ⟨_,_,rfl,rfl,hb,[_],[],[],rfl,List.nodup_nil,(fun b hb => nomatch hb),_,[],[],[],[],[],rfl,rfl,rfl,ho,⟨?_,rfl,rfl⟩,rfl,rfl,rfl⟩
 have hel:ownR k w' dd xs F:=hel
 have hv:=ownV_sl.2 ⟨og,dd,F,hrow,hel,rfl⟩
 exact hv.rd.mono (fun b hb _ => ⟨.inr (hG2 b (by simpa using hb)),by simp⟩)
theorem a_l03Sort (f:List (List Int)) (hl:f.length ≤ 1000) (hs:∀ b ∈ f,b.length ≤ 1000):AFn Try.prog 106 [eLL f] (· = [.own 1 ((forest f).map eL) true]) :=
 afn_LLL_oo (enters_of Try.func106 rfl rfl) (fun u w h => c_spec_l03Sort u f w h (by omega) (fun b hb => by have:=hs b hb;omega))
theorem a_l03CanonB (t:List Int) (h:LevP t) (hl:t.length ≤ 1000):AFn Try.prog 64 [eL t] (· = [.own 1 ((canon t).map eI) true]) :=
 afn_L_o (enters_of Try.func64 rfl rfl) (fun u w h' => c_spec_l03Canon 1000 u t w h' h hl (by omega))
end Go.Proofs.Ytgngidchldajhaa
namespace Go.Proofs.Ytgngidchldajhaa
open Go.RowKit
theorem AFn.valT2 {P:Program} {f:FuncId} {ds:List (List D)} {k:Nat} {xs:List (List D)} {c:Int} (h:AFn P f ds (· = [.own k xs true,.val (.int c)])):AFn P f ds (· = [.val (.sl k xs),.val (.int c)]):=by
 refine ⟨h.call,fun A w vs hA hr => (h.fn A w vs hA hr).mono ?_⟩
 rintro e w' ⟨v,rs,rfl,rfl,hb,us,G,X,rfl,hG1,hG2,hrel⟩
 obtain ⟨v1,us1,G1,G2,Y1,Y2,rfl,e1,e2,ho,⟨og,cap,F,dd,rfl,hrow,hk,e3,e4,hel⟩,hrest⟩:=hrel
 have hel:ownR k w' dd xs F:=hel
 have hv:=ownV_sl.2 ⟨og,dd,F,hrow,hel,rfl⟩
 obtain ⟨v2,us2,G3,G4,Y3,Y4,rfl,f1,f2,ho2,⟨hv2,f3,f4⟩,hend⟩:=hrest
 have hend:us2 = []∧G4 = []∧Y4 = []:=hend
 obtain ⟨rfl,rfl,rfl⟩:=hend
 refine ⟨_,_,rfl,rfl,hb,[_,_],[],[],rfl,List.nodup_nil,(fun b hb => nomatch hb),_,[_],[],[],[],[],rfl,rfl,rfl,ho,⟨?_,rfl,rfl⟩,_,[],[],[],[],[],rfl,rfl,rfl,ho2,⟨rdV_int.2 (rdV_int.1 hv2),rfl,rfl⟩,rfl,rfl,rfl⟩
 exact hv.rd.mono (fun b hb _ => ⟨.inr (hG2 b (by
  rw [e1,e3]
  exact List.mem_append_left _ (by simpa using hb))),by simp⟩)
end Go.Proofs.Ytgngidchldajhaa
namespace Go.Proofs.Ytgngidchldajhaa
section
variable {κ:Type} (c:κ→κ→Int)
def putN:List (κ × Int)→Int→κ→List (κ × Int)
 | [],k,x => [(x,k)]
 | p :: L,k,x => if c x p.1 < 0 then (x,k) :: p :: L else if c x p.1 = 0 then (p.1,p.2 + k) :: L else p :: putN L k x
def expN (L:List (κ × Int)):List κ:=L.flatMap fun p => List.replicate p.2.toNat p.1
def NfN (L:List (κ × Int)):Prop:=L.Pairwise (fun p q => c p.1 q.1 < 0)∧∀ q ∈ L,1 ≤ q.2
def IsN (L:List (κ × Int)) (M:List κ):Prop:=NfN c L∧(expN L).Perm M
end
section
variable {κ:Type} {c:κ→κ→Int}
theorem expN_cons (p:κ × Int) (L:List (κ × Int)):expN (p :: L) = List.replicate p.2.toNat p.1 ++ expN L:=rfl
theorem expN_app (L M:List (κ × Int)):expN (L ++ M) = expN L ++ expN M:=by simp [expN]
theorem expN_mem {L:List (κ × Int)} {x:κ} (h:x ∈ expN L):∃ p ∈ L,p.1 = x:=by
 obtain ⟨p,hp,h⟩:=List.mem_flatMap.1 h
 exact ⟨p,hp,(List.eq_of_mem_replicate h).symm⟩
theorem mem_expN {L:List (κ × Int)} {p:κ × Int} (h:p ∈ L) (h1:1 ≤ p.2):p.1 ∈ expN L :=
 List.mem_flatMap.2 ⟨p,h,List.mem_replicate.2 ⟨by omega,rfl⟩⟩
theorem NfN.nil:NfN c []:=⟨List.Pairwise.nil,fun q hq => nomatch hq⟩
theorem IsN.nil:IsN c [] []:=⟨NfN.nil,List.Perm.refl _⟩
theorem IsN.perm {L:List (κ × Int)} {M M':List κ} (h:IsN c L M) (hp:M.Perm M'):IsN c L M':=⟨h.1,h.2.trans hp⟩
theorem NfN.tail {p:κ × Int} {L:List (κ × Int)} (h:NfN c (p :: L)):NfN c L:=⟨(List.pairwise_cons.1 h.1).2,fun q hq => h.2 q (List.mem_cons_of_mem _ hq)⟩
variable (hc:Cmp c)
include hc
theorem NfN.ext:∀ {L L':List (κ × Int)},NfN c L→NfN c L'→(expN L).Perm (expN L')→L = L'
 | [],[],_,_,_ => rfl
 | [],q :: L',_,h',hp => by
  have:=hp.length_eq
  have h1:=h'.2 q (by simp)
  rw [expN_cons,List.length_append,List.length_replicate] at this
  simp [expN] at this;omega
 | p :: L,[],h,_,hp => by
  have:=hp.length_eq
  have h1:=h.2 p (by simp)
  rw [expN_cons,List.length_append,List.length_replicate] at this
  simp [expN] at this;omega
 | p :: L,q :: L',h,h',hp => by
  have hp1:=h.2 p (by simp)
  have hq1:=h'.2 q (by simp)
  have low:∀ {p:κ × Int} {L:List (κ × Int)},NfN c (p :: L)→∀ x ∈ expN (p :: L),c p.1 x ≤ 0:=fun {p L} h x hx => by
   obtain ⟨r,hr,rfl⟩:=expN_mem hx
   rcases List.mem_cons.1 hr with rfl|hr
   ·rw [hc.refl];omega
   ·have:=(List.pairwise_cons.1 h.1).1 r hr;omega
  have e1:=low h q.1 (hp.mem_iff.2 (mem_expN (by simp) hq1))
  have e2:=low h' p.1 (hp.mem_iff.1 (mem_expN (by simp) hp1))
  have ek:p.1 = q.1:=by
   apply hc.zero
   rcases Int.lt_or_eq_of_le e1 with e|e
   ·have:=(hc.anti _ _).1 e;omega
   ·exact e
  have no:∀ {p:κ × Int} {L:List (κ × Int)},NfN c (p :: L)→p.1 ∉ expN L:=fun {p L} h hx => by
   obtain ⟨r,hr,e⟩:=expN_mem hx
   have:=(List.pairwise_cons.1 h.1).1 r hr
   rw [e,hc.refl] at this;omega
  have hcnt:∀ {p:κ × Int} {L:List (κ × Int)},NfN c (p :: L)→(expN (p :: L)).countP (fun x => decide (c p.1 x = 0)) = p.2.toNat:=fun {p L} h => by
   rw [expN_cons,List.countP_append,List.countP_replicate,if_pos (by simp [hc.refl])]
   have:(expN L).countP (fun x => decide (c p.1 x = 0)) = 0:=List.countP_eq_zero.2 fun x hx => by
    have:c p.1 x ≠ 0:=fun e => no h (by rw [hc.zero _ _ e];exact hx)
    simpa using this
   omega
  have c1:=hcnt h
  have c2:=hcnt h'
  rw [← ek,← hp.countP_eq] at c2
  have en:p.2 = q.2:=by omega
  have epq:p = q:=Prod.ext ek en
  subst epq
  rw [expN_cons,expN_cons,List.perm_append_left_iff] at hp
  rw [NfN.ext h.tail h'.tail hp]
theorem IsN.ext {L L':List (κ × Int)} {M M':List κ} (h:IsN c L M) (h':IsN c L' M') (hp:M.Perm M'):L = L' :=
 NfN.ext hc h.1 h'.1 (h.2.trans (hp.trans h'.2.symm))
theorem putN_exp:∀ (L:List (κ × Int)) (k:Int) (x:κ),(∀ q ∈ L,1 ≤ q.2)→1 ≤ k→(expN (putN c L k x)).Perm (expN L ++ List.replicate k.toNat x)
 | [],k,x,_,_ => by simp [putN,expN]
 | p :: L,k,x,h,hk => by
  unfold putN
  split
  ·rw [expN_cons];exact List.perm_append_comm
  ·split
   ·rename_i e
    rw [expN_cons,expN_cons,hc.zero _ _ e]
    have:=h p (by simp)
    show (List.replicate (p.2 + k).toNat p.1 ++ expN L).Perm _
    rw [show (p.2 + k).toNat = p.2.toNat + k.toNat by omega,← List.replicate_append_replicate,List.append_assoc,List.append_assoc]
    exact (List.perm_append_left_iff _).2 List.perm_append_comm
   ·rw [expN_cons,expN_cons,List.append_assoc]
    exact (List.perm_append_left_iff _).2 (putN_exp L k x (fun q hq => h q (by simp [hq])) hk)
omit hc in
theorem putN_mem:∀ (L:List (κ × Int)) (k:Int) (x:κ) {q:κ × Int},q ∈ putN c L k x→q.1 = x ∨ ∃ p ∈ L,p.1 = q.1
 | [],k,x,q,h => by
  obtain rfl:q = (x,k):=by simpa [putN] using h
  exact .inl rfl
 | p :: L,k,x,q,h => by
  unfold putN at h
  split at h
  ·rcases List.mem_cons.1 h with rfl|h
   ·exact .inl rfl
   ·exact .inr ⟨q,h,rfl⟩
  ·split at h
   ·rcases List.mem_cons.1 h with rfl|h
    ·exact .inr ⟨p,by simp,rfl⟩
    ·exact .inr ⟨q,by simp [h],rfl⟩
   ·rcases List.mem_cons.1 h with rfl|h
    ·exact .inr ⟨q,by simp,rfl⟩
    ·rcases putN_mem L k x h with h|⟨r,h1,h2⟩
     ·exact .inl h
     ·exact .inr ⟨r,by simp [h1],h2⟩
theorem putN_nf:∀ {L:List (κ × Int)} {k:Int} {x:κ},NfN c L→1 ≤ k→NfN c (putN c L k x)
 | [],k,x,_,hk => ⟨by simp [putN],fun q hq => by
   have:q = (x,k):=by simpa [putN] using hq
   rw [this];exact hk⟩
 | p :: L,k,x,h,hk => by
  have h1:=List.pairwise_cons.1 h.1
  have h2:=h.2 p (by simp)
  unfold putN
  split
  ·rename_i hlt
   refine ⟨List.pairwise_cons.2 ⟨fun q hq => ?_,h.1⟩,fun q hq => ?_⟩
   ·rcases List.mem_cons.1 hq with rfl|hq
    ·exact hlt
    ·exact hc.lt_tr hlt (h1.1 q hq)
   ·rcases List.mem_cons.1 hq with rfl|hq
    ·exact hk
    ·exact h.2 q hq
  ·split
   ·refine ⟨List.pairwise_cons.2 ⟨h1.1,h1.2⟩,fun q hq => ?_⟩
    rcases List.mem_cons.1 hq with rfl|hq
    ·show 1 ≤ p.2 + k;omega
    ·exact h.2 q (by simp [hq])
   ·rename_i n1 n2
    have ih:=putN_nf (x:=x) h.tail hk
    refine ⟨List.pairwise_cons.2 ⟨fun q hq => ?_,ih.1⟩,fun q hq => ?_⟩
    ·rcases putN_mem L k x hq with e|⟨r,hr,e⟩
     ·rw [e,hc.anti];omega
     ·rw [← e];exact h1.1 r hr
    ·rcases List.mem_cons.1 hq with rfl|hq
     ·exact h2
     ·exact ih.2 q hq
theorem IsN.put {L:List (κ × Int)} {M:List κ} (h:IsN c L M) {k:Int} {x:κ} (hk:1 ≤ k):IsN c (putN c L k x) (M ++ List.replicate k.toNat x) :=
 ⟨putN_nf hc h.1 hk,(putN_exp hc L k x h.1.2 hk).trans ((List.perm_append_right_iff _).2 h.2)⟩
theorem IsN.puts:∀ (P:List (κ × Int)) {L:List (κ × Int)} {M:List κ},IsN c L M→(∀ p ∈ P,1 ≤ p.2)→IsN c (P.foldl (fun s p => putN c s p.2 p.1) L) (M ++ expN P)
 | [],L,M,h,_ => by simpa [expN] using h
 | p :: P,L,M,h,hp => by
  have:=IsN.puts P (h.put hc (hp p (by simp)) (x:=p.1)) (fun q hq => hp q (by simp [hq]))
  rw [expN_cons,← List.append_assoc]
  exact this
omit hc
theorem IsN.cnt {L:List (κ × Int)} {M:List κ} (h:IsN c L M):∀ p ∈ L,1 ≤ p.2∧p.2 ≤ M.length:=fun p hp => by
 have h1:=h.1.2 p hp
 refine ⟨h1,?_⟩
 have hl:=h.2.length_eq
 obtain ⟨s,t,rfl⟩:=List.append_of_mem hp
 rw [expN_app,expN_cons,List.length_append,List.length_append,List.length_replicate] at hl
 omega
theorem IsN.len {L:List (κ × Int)} {M:List κ} (h:IsN c L M):L.length ≤ M.length:=by
 rw [← h.2.length_eq]
 have key:∀ (L:List (κ × Int)),(∀ p ∈ L,1 ≤ p.2)→L.length ≤ (expN L).length:=by
  intro L
  induction L with
  | nil => intro _;exact Nat.le_refl _
  | cons p L ih =>
   intro hp
   have h1:=hp p (by simp)
   have h2:=ih (fun q hq => hp q (by simp [hq]))
   rw [expN_cons,List.length_append,List.length_replicate,List.length_cons];omega
 exact key L h.1.2
def stepN (c:κ→κ→Int) (out:List (κ × Int)) (x:κ):List (κ × Int):=match out.getLast? with
 | some p => if c p.1 x = 0 then out.dropLast ++ [(p.1,p.2 + 1)] else out ++ [(x,1)]
 | none => [(x,1)]
def runsN (c:κ→κ→Int) (M:List κ):List (κ × Int):=M.foldl (stepN c) []
theorem stepN_eq {c:κ→κ→Int} (out:List (κ × Int)) (p:κ × Int) (x:κ) (h:c p.1 x = 0):stepN c (out ++ [p]) x = out ++ [(p.1,p.2 + 1)]:=by simp [stepN,h]
theorem stepN_ne {c:κ→κ→Int} (out:List (κ × Int)) (p:κ × Int) (x:κ) (h:¬ c p.1 x = 0):stepN c (out ++ [p]) x = out ++ [p] ++ [(x,1)]:=by simp [stepN,h]
theorem runsN_snoc (c:κ→κ→Int) (M:List κ) (x:κ):runsN c (M ++ [x]) = stepN c (runsN c M) x:=by unfold runsN;rw [List.foldl_append];rfl
theorem snocN {α:Type} {l:List α} (h:l ≠ []):∃ p z,l = p ++ [z]:=⟨l.dropLast,l.getLast h,(List.dropLast_concat_getLast h).symm⟩
include hc
theorem runsN_is:∀ (n:Nat) (M:List κ),M.length = n→M.Pairwise (fun a b => c a b ≤ 0)→IsN c (runsN c M) M
 | 0,M,hn,_ => by
  obtain rfl:=List.eq_nil_of_length_eq_zero hn
  exact IsN.nil
 | n + 1,M,hn,hM => by
  obtain ⟨M,x,rfl⟩:=snocN (l:=M) (by rintro rfl;cases hn)
  rw [List.pairwise_append] at hM
  have ih:=runsN_is n M (by simpa using hn) hM.1
  have hx:∀ a ∈ M,c a x ≤ 0:=fun a ha => hM.2.2 a ha x (by simp)
  rw [runsN_snoc]
  by_cases h0:runsN c M = []
  ·rw [h0] at ih ⊢
   obtain rfl:M = []:=List.nil_perm.1 ih.2
   exact ⟨⟨by simp [stepN],fun q hq => by
    have:q = (x,1):=by simpa [stepN] using hq
    rw [this];exact Int.le_refl _⟩,by simp [stepN,expN]⟩
  ·obtain ⟨out,p,e⟩:=snocN h0
   rw [e] at ih ⊢
   obtain ⟨⟨i1,i2⟩,i3⟩:=ih
   rw [List.pairwise_append] at i1
   have hp1:=i2 p (by simp)
   have hpx:=hx p.1 (i3.mem_iff.1 (mem_expN (by simp) hp1))
   by_cases hq:c p.1 x = 0
   ·rw [stepN_eq _ _ _ hq]
    refine ⟨⟨List.pairwise_append.2 ⟨i1.1,by simp,fun a ha b hb => ?_⟩,fun q hq => ?_⟩,?_⟩
    ·obtain rfl:=List.mem_singleton.1 hb
     exact i1.2.2 a ha p (by simp)
    ·rcases List.mem_append.1 hq with hq|hq
     ·exact i2 q (by simp [hq])
     ·obtain rfl:=List.mem_singleton.1 hq
      show 1 ≤ p.2 + 1;omega
    ·obtain rfl:=hc.zero _ _ hq
     rw [expN_app] at i3 ⊢
     have:expN [(p.1,p.2 + 1)] = expN [p] ++ [p.1]:=by
      show List.replicate (p.2 + 1).toNat p.1 ++ [] = (List.replicate p.2.toNat p.1 ++ []) ++ [p.1]
      rw [show (p.2 + 1).toNat = p.2.toNat + 1 by omega,List.replicate_succ'];simp
     rw [this,← List.append_assoc]
     exact (List.perm_append_right_iff _).2 i3
   ·rw [stepN_ne _ _ _ hq]
    refine ⟨⟨List.pairwise_append.2 ⟨List.pairwise_append.2 i1,by simp,fun a ha b hb => ?_⟩,fun q hq => ?_⟩,?_⟩
    ·obtain rfl:=List.mem_singleton.1 hb
     show c a.1 x < 0
     have hpx':c p.1 x < 0:=by omega
     rcases List.mem_append.1 ha with ha|ha
     ·exact hc.lt_tr (i1.2.2 a ha p (by simp)) hpx'
     ·obtain rfl:=List.mem_singleton.1 ha
      exact hpx'
    ·rcases List.mem_append.1 hq with hq|hq
     ·exact i2 q hq
     ·obtain rfl:=List.mem_singleton.1 hq
      exact Int.le_refl _
    ·rw [expN_app]
     exact (List.perm_append_right_iff _).2 i3
theorem runsN_sorted {S M:List κ} (hp:S.Perm M) (hs:S.Pairwise (fun a b => c a b ≤ 0)):IsN c (runsN c S) M:=(runsN_is hc _ S rfl hs).perm hp
end
end Go.Proofs.Ytgngidchldajhaa
namespace Go.Proofs.Ytgngidchldajhaa
open Go.RowKit
theorem putC_putN:∀ (s:List (List Int × Int)) (t:List Int) (n:Int),putC s t n = putN cmpT s n t
 | [],_,_ => rfl
 | (x,c) :: s,t,n => by
  unfold putC putN
  have ha:=cmpT_cmp.anti x t
  by_cases h1:cmpT x t < 0
  ·have h2:¬ cmpT t x < 0:=by omega
   have h3:¬ cmpT t x = 0:=by omega
   rw [if_pos h1,if_neg h2,if_neg h3,putC_putN s t n]
  ·rw [if_neg h1]
   by_cases h2:x = t
   ·subst h2
    have:=cmpT_cmp.refl x
    rw [if_pos rfl,if_neg (by omega),if_pos this]
   ·have h3:=cmpT_eq_of h1 h2
    rw [if_neg h2,if_pos h3]
theorem foldl_putN (ts:List (List Int)):∀ s,ts.foldl (fun s t => putC s t 1) s = (ts.map fun t => (t,(1:Int))).foldl (fun s p => putN cmpT s p.2 p.1) s:=by
 induction ts with
 | nil => intro s;rfl
 | cons t ts ih => intro s;rw [List.foldl_cons,List.map_cons,List.foldl_cons,ih,putC_putN]
theorem expN_one (ts:List (List Int)):expN (ts.map fun t => (t,(1:Int))) = ts:=by
 induction ts with
 | nil => rfl
 | cons t ts ih => rw [List.map_cons,expN_cons,ih];rfl
theorem sumOf_is (ts:List (List Int)):IsN cmpT (sumOf ts) ts:=by
 have h:=IsN.puts (c:=cmpT) (hc:=cmpT_cmp) (ts.map fun t => (t,(1:Int))) IsN.nil (by simp)
 rw [expN_one,List.nil_append,← foldl_putN] at h
 exact h
theorem stepC_stepN (out:List (List Int × Int)) (x:List Int):stepC id out x = stepN cmpT out x:=by
 unfold stepC stepN
 cases out.getLast? with
 | none => rfl
 | some z =>
  show (if z.1 = x then _ else _) = (if cmpT z.1 x = 0 then _ else _)
  by_cases h:z.1 = x
  ·rw [if_pos h,if_pos (by rw [h];exact cmpT_cmp.refl x)]
  ·rw [if_neg h,if_neg (fun e => h (cmpT_cmp.zero _ _ e))]
theorem runsF_runsN (ts:List (List Int)):runsF id ts = runsN cmpT ts:=by
 unfold runsF runsN
 have:(stepC (id:List Int→List Int)) = stepN cmpT:=by funext o x;exact stepC_stepN o x
 rw [this]
theorem cntOf_is (ts:List (List Int)):IsN cmpT (cntOf ts) ts:=by
 unfold cntOf
 rw [runsF_runsN]
 exact runsN_sorted cmpT_cmp (sortC_perm _) (sortC_sorted cmpT_cmp _)
theorem cntOf_sumOf (ts:List (List Int)):cntOf ts = sumOf ts:=IsN.ext cmpT_cmp (cntOf_is ts) (sumOf_is ts) (List.Perm.refl _)
end Go.Proofs.Ytgngidchldajhaa
