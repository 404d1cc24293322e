/- Lemmas (7). -/
import Derived.BigQuiet
import Derived.Test.YtofpjonggpjneaaZD0
import Derived.Test.YtofpjonggpjneaaZD1
import Derived.Test.YtofpjonggpjneaaZD5
import Derived.Test.YtofpjonggpjneaaZD6
set_option linter.unusedSimpArgs false
set_option linter.unusedVariables false
namespace Go.Proofs.Ytofpjonggpjneaa
open Go.RowKit
theorem sortC_take_succ' {c:List Int→List Int→Int} {t:List (List Int)} (k:Nat) (h:k < t.length):sortC c (t.take (k + 1)) = ins c t[k] (sortC c (t.take k)):=by
 rw [List.take_succ_eq_append_getElem h,sortC_snoc]
theorem own_step {W:World} {ops:Array Oper} {o:Oper} {a:Act} {K:Act→World→Prop} {Q:Exit→Act→World→Prop} {E:Prop} (hgd:o.guard = none) (args:Array Operand) (ts:Array TypeId)
  (ho:o.op = .call { callee:=.value (.func 164),args:=args,argTypes:=ts }) (v:Value) (x:List Int) (hv:args.map a.eval = #[v]) (wb:World) (hW:W.heap = wb.heap) (hr:Rd (RS RI) wb [v] x) (hxl:x.length ≤ 1000000000)
  (h:∀ ou cu w2,Own (RS RI) wb.heap.size w2.heap.size w2 [.slice ou x.length cu] x→Below wb.heap.size W w2→wb.heap.size ≤ w2.heap.size→K (a.put o.dst (.slice ou x.length cu)) w2) :
  if Region.wanted o (yielded ops a.tmps) = true then Oper.wp Try.prog o a W K Q else E:=by
 refine step_call hgd 164 args ts ho (enters (P:=Try.prog) (f:=164) Try.func164 (by kernel_rfl) rfl) #[v] hv ?_
 refine (c_spec_l01Own v x W (hr.of_heap hW) hxl).mono ?_
 rintro e w2 ⟨u,rfl,o2,b2⟩
 obtain ⟨ou,cu,rfl,_⟩:=o2.val
 rw [hW] at o2 b2
 exact ⟨_,rfl,h ou cu w2 o2 b2 (by have:=b2.size;rw [hW] at this;exact this)⟩
set_option maxRecDepth 100000 in
set_option maxHeartbeats 4000000 in
theorem c_spec_l03Sort (v:Value) (bs:List (List Int)) (w:World) (h:Rd (RS (RS RI)) w [v] bs) (hsz:bs.length ≤ 1000000) (hsl:∀ b ∈ bs,b.length ≤ 1000000000) :
  Calls Try.prog 179 #[v] w (RetO (RS (RS RI)) w (forest bs)):=by
 obtain ⟨oa,cap,L⟩:=h.lists
 obtain rfl:=L.val
 have m1:=L.le;have m2:=L.capLe
 have HL:=Lib.hid L
 have HS:=Lib.hid hsl
 have EGL:=Lib.hid (enters (P:=Try.prog) (f:=164) Try.func164 (by kernel_rfl) rfl)
 clear L h hsl
 go_enter Try.func179,Try.ntmps179
 go_wp2_with fail
 go_loopw [3,4] (fun o i wr => ∃ (k:Nat) (ys:List (List Int)),k ≤ bs.length∧i = .int .i64 k∧Hid (ys = sortC cmpT (bs.take k))∧Hid (ys.length = k)∧(∃ g cap,o = .slice (some ⟨g,0,none⟩) ys.length cap)∧Hid (Own (RS (RS RI)) w.heap.size wr.heap.size wr [o] ys)∧Below w.heap.size w wr) (fun _ i _ => bs.length - (intOf i).toNat)
 case atStart => exact ⟨0,[],Nat.zero_le _,rfl,Lib.hid (by simp [sortC]),Lib.hid rfl,⟨_,_,rfl⟩,Lib.hid ((Own.empty (R:=RS RI) (w:=w) 24 w.heap.size (Nat.le_refl _)).top _ (by simp)),(Below.refl _ _).alloc (Nat.le_refl _) _⟩
 case round =>
  obtain ⟨k,ys,hk,rfl,hys,Hyl,⟨g0,cap0,rfl⟩,hown,hbel⟩:=hrel
  have hsz2:=hbel.size
  obtain ⟨wo,hwo⟩:∃ wo:World,wo = wr:=⟨_,rfl⟩
  subst hwo
  by_cases hlt:k < bs.length
  ·obtain ⟨b,off,rfl,hb,hc⟩:=HL.out.get hlt
   obtain ⟨oi,ci,g1,hrd,q1,q2⟩:=hc k hlt
   have g2:wo.cell? ⟨b,off + k,none⟩ = some (.slice oi bs[k].length ci):=(hbel.cell (p:=⟨b,off + k,none⟩) hb).trans g1
   have hst:=sortC_take_succ' (c:=cmpT) k hlt
   rw [← hys.out] at hst
   obtain ⟨x,hx⟩:∃ x,x = bs[k]:=⟨_,rfl⟩
   have hxl:x.length ≤ 1000000000:=by rw [hx];exact HS.out _ (List.getElem_mem hlt)
   rw [← hx] at g2 hrd q1 hst
   have HST:=Lib.hid hst
   have HR:=Lib.hid (hrd.below hbel (Nat.le_refl _))
   have HOO:Hid (∀ (W' w2:World),W'.heap = wo.heap→Below wo.heap.size W' w2→Own (RS (RS RI)) w.heap.size wo.heap.size w2 [.slice (some ⟨g0,0,none⟩) ys.length cap0] ys):=Lib.hid (fun W' w2 e b => (hown.out.of_heap e).below b (Nat.le_refl _))
   have ik1:(0:Int) ≤ (k:Int):=by omega
   have ik2:(k:Int) < (bs.length:Int):=by omega
   clear hst hc g1 hx hrd
   go_wp2_with fail
   go_loopw [5] (fun i wr => ∃ (j:Nat),j ≤ ys.length∧i = .int .i64 j∧Hid (∀ q (h:q < ys.length),q < j→¬ cmpT x ys[q] < 0)∧∃ n,wr = wo.drewN n) (fun i _ => ys.length - (intOf i).toNat)
   case atStart => exact ⟨0,Nat.zero_le _,rfl,Lib.hid (fun q _ h => by omega),0,rfl⟩
   case round =>
    obtain ⟨j,hj,rfl,hall,nd,rfl⟩:=hrel
    have HO3:Hid (Own (RS (RS RI)) w.heap.size wo.heap.size (wo.drewN nd) [.slice (some ⟨g0,0,none⟩) ys.length cap0] ys):=hown.out.of_heap rfl
    have g3:(wo.drewN nd).cell? ⟨b,off + k,none⟩ = some (.slice oi x.length ci):=g2
    have hyb:ys.length ≤ 1000000:=by rw [Hyl.out];omega
    have hle4:=hown.out.val
    obtain ⟨_,_,ev,le4,_⟩:=hle4
    simp only [Value.slice.injEq,true_and] at ev
    obtain ⟨rfl,rfl⟩:=ev
    by_cases hjl:j < ys.length
    ·obtain ⟨g',cap',h0,hv,q1',q2',hg1',hg2',hcell,hel⟩:=HO3.out.elem j hjl
     simp only [Value.slice.injEq,true_and] at hv
     obtain ⟨e1,e2⟩:=hv
     simp only [Option.some.injEq,Addr.mk.injEq,and_true] at e1
     subst e1;subst e2
     obtain ⟨oj,cj,rfl,_⟩:=hel.val
     have hls:∀ a,Calls Try.prog 124 #[.slice oi x.length ci,.slice oj ys[j].length cj] (wo.drewN (nd + a)) (RetQ (wo.drewN (nd + a)) (.bool (decide (cmpT x ys[j] < 0)))):=fun a => c_spec_l03Before _ _ x ys[j] _ (HR.out.of_heap rfl) (hel.rd.of_heap rfl)
     obtain ⟨yl,hyl'⟩:∃ yl,yl = ys[j].length:=⟨_,rfl⟩
     rw [← hyl'] at hls hcell
     replace hcell:wo.cell? ⟨g0,j,none⟩ = some (.slice oj yl cj):=hcell
     have ij1:(0:Int) ≤ (j:Int):=by omega
     have ij2:(j:Int) < (ys.length:Int):=by omega
     have ij3:decide ((j:Int) < (ys.length:Int)) = true:=decide_eq_true ij2
     clear hel hyl'
     by_cases hle:cmpT x ys[j] < 0
     ·have hd:decide (cmpT x ys[j] < 0) = true:=decide_eq_true hle
      rw [hd] at hls
      have HLS:=Lib.hid hls
      have HE:Hid (ins cmpT x ys = ys.take j ++ x :: ys.drop j):=Lib.hid (ins_at hj hall.out (fun _ => hle))
      clear hd hle hls
      go_wp2_with fail
      go_quiet ((go_at_call 124;exact Calls.qQ' (HLS.out _)))
      clear HLS hcell
      have hcj:¬ cap0 = j:=by omega
      go_wp2_with fail
      go_region_law (first
       | (refine own_step rfl _ _ rfl (.slice oi x.length ci) x (by simp [Act.eval]) wo (by rfl) HR.out hxl ?_;intro ou cu w2 o2 b2 hsz5;have HO4:=HOO.out _ _ (by rfl) b2;obtain ⟨d1,d2,t1l,t2l,t1,t2,t3,hcl,hmk⟩:=HO4.insRow (R:=RS RI) rfl hsz5 hsz2 o2 j hj;rw [← HE.out,← HST.out] at hmk;have T1L:=Lib.hid t1l;have T2L:=Lib.hid t2l;have hbel4:Below w.heap.size w w2:=(hbel.trans (Below.drewN _ _ _)).trans (b2.mono hsz2);clear t1l t2l o2 HO4)
       | (refine step_appendS rfl _ _ 30 rfl 24 (.slice none 0 0) 1 24 tI64S (.slice (some ⟨w2.heap.size,0,none⟩) 1 1) 1 [.slice ou x.length cu] (some w2.heap.size) rfl (by simpa using Row.lit w2 #[.slice ou x.length cu] 24 1 1 (by decide) (by simp)) _ _ _ d2 rfl (by have:=T2L.out;omega) (by intro h;cases h) (by intro a ha i u hi;cases ha;rw [Addr.add_lit];exact (hcl (w2.alloc _) ((Below.refl _ _).alloc (Nat.le_refl _) _)).2 i u hi) t2 (by have:=T2L.out;omega) (by have:=T2L.out;unfold maxLen;omega) ?_;intro vA wA ogA happA))
      all_goals
       replace happA:Appended (w2.alloc (.cells #[.slice ou x.length cu] 24)) wA vA 1 (1 + d2.length) ([.slice ou x.length cu] ++ d2) (some w2.heap.size) ogA:=by have e:=T2L.out;first|exact happA|(rw [e];simpa using happA)
       obtain ⟨oA,capA,rfl,pA1,pA2⟩:=happA.1.val
       unfold maxLen at pA2
       have lowA:=happA.low (B:=(w2).heap.size) (by simp) (fun g hg => by cases hg;exact Nat.le_refl _)
       have belA:Below (w2).heap.size (w2) wA:=((Below.refl _ _).alloc (Nat.le_refl _) _).trans lowA.2
       have sA:=belA.size
       have HA:=Lib.hid happA.1
       have HogA:=Lib.hid lowA.1
       have CA:=(hcl wA belA).1
       clear happA lowA
       go_wp2_with (at_builtin;refine StopAt (o:=⟨some 46,_,_,_,_,_⟩) ?_)
       refine Stop.go ?_
       refine wpList_appendS rfl _ _ 30 rfl 24 (.slice none 0 0) 1 24 tI64S (.slice (some ⟨wA.heap.size,0,none⟩) 0 0) 0 [] (some wA.heap.size) rfl (by simpa using Row.lit wA #[] 24 1 0 (by decide) (by simp)) (some ⟨g0,0,none⟩) j _ d1 rfl (by have:=T1L.out;omega) (fun h => by cases h) (by intro a ha i u hi;cases ha;rw [Addr.add_lit,Nat.zero_add];have:=(hcl (wA.alloc (.cells #[] 24)) (belA.alloc sA _)).1 i u hi;exact this) t1 (by have:=T1L.out;omega) (by unfold maxLen;omega) ?_
       intro vB wB ogB happB
       rw [Nat.zero_add,List.nil_append] at happB
       obtain ⟨oB,capB,rfl,pB1,pB2⟩:=happB.1.val
       unfold maxLen at pB2
       have lowB:=happB.low (B:=(w2).heap.size) (Nat.le_trans sA (by simp)) (fun g hg => by cases hg;exact sA)
       have lowB2:=happB.low (B:=wA.heap.size) (by simp) (fun g hg => by cases hg;exact Nat.le_refl _)
       have belB2:Below wA.heap.size wA wB:=((Below.refl _ _).alloc (Nat.le_refl _) _).trans lowB2.2
       have belB:Below (w2).heap.size (w2) wB:=belA.trans (belB2.mono sA)
       have sB:=belB.size
       have hrA:Row wB (.slice oA (1 + d2.length) capA) 1 (1 + d2.length) ([(.slice ou x.length cu)] ++ d2) ogA:=HA.out.frame (fun g hg => belB2.block g (HA.out.lt g hg))
       obtain ⟨gA,hgA⟩:=hrA.some_of (j:=0) (by omega)
       subst hgA
       obtain ⟨oA',cA',eA,_,_,_,eA2⟩:=hrA.value
       simp only [Value.slice.injEq,true_and] at eA
       obtain ⟨rfl,rfl⟩:=eA
       simp only [Option.map_some] at eA2
       subst eA2
       have HRA:=Lib.hid hrA
       have HB:=Lib.hid happB.1
       have HogB:=Lib.hid lowB.1
       clear hrA happB lowB lowB2 CA
       go_wp2_with (at_builtin;refine StopAt (o:=⟨some 48,_,_,_,_,_⟩) ?_)
       refine Stop.go ?_
       refine wpList_appendS rfl _ _ 30 rfl 24 (.slice none 0 0) 1 24 tI64S (.slice oB j capB) j d1 ogB rfl HB.out (some ⟨gA,0,none⟩) _ _ ([(.slice ou x.length cu)] ++ d2) rfl (by simp <;> omega) (fun h => by cases h) (by intro a ha i u hi;cases ha;rw [Addr.add_lit,Nat.zero_add];exact HRA.out.cells i u hi) (fun u hu => (List.mem_append.1 hu).elim (fun h => by simp at h;subst h;exact t3) (t2 u)) (by have:=T2L.out;omega) (by have:=T2L.out;unfold maxLen;omega) ?_
       intro vC wC ogC happC
       have lowC:=happC.low (B:=(w2).heap.size) sB HogB.out
       have belC:Below (w2).heap.size (w2) wC:=belB.trans lowC.2
       have hrC:=happC.1
       have eN:j + (1 + d2.length) = ys.length + 1:=by have:=T1L.out;have:=T2L.out;omega
       rw [eN,List.singleton_append] at hrC
       have hfin:=hmk wC vC ogC belC hrC lowC.1
       obtain ⟨gC,hgC⟩:=hrC.some_of (j:=0) (by omega)
       subst hgC
       obtain ⟨capC,hvC,_,_⟩:=hrC.slice
       subst hvC
       have HFIN:=Lib.hid hfin
       clear hfin hrC happC lowC HA HB HRA HogA HogB eN
       have hfl:(sortC cmpT (bs.take (k + 1))).length = ys.length + 1:=by rw [sortC_length];simp;rw [Hyl.out];omega
       obtain ⟨zs,hzs⟩:∃ zs,zs = sortC cmpT (bs.take (k + 1)):=⟨_,rfl⟩
       rw [← hzs] at HFIN hfl
       have hkz:zs.length = k + 1:=by rw [hfl,Hyl.out]
       rw [← hfl] at HFIN
       rw [← hfl]
       have HZ:=Lib.hid hzs
       have HKZ:=Lib.hid hkz
       clear hzs hfl hkz
       go_wp2_with fail
       go_roundw
       case rel => exact ⟨k + 1,zs,by omega,by go_num,HZ,HKZ,⟨_,_,rfl⟩,HFIN,hbel4.trans (belC.mono (Nat.le_trans hsz2 hsz5))⟩
       case measure => simp [intOf];omega
     ·have hd:decide (cmpT x ys[j] < 0) = false:=decide_eq_false hle
      rw [hd] at hls
      have HLS:=Lib.hid hls
      have HN:Hid (¬ cmpT x ys[j] < 0):=Lib.hid hle
      clear hd hle hls
      go_wp2_with fail
      go_quiet ((go_at_call 124;exact Calls.qQ' (HLS.out _)))
      go_wp2_with fail
      go_roundw
      case rel =>
       refine ⟨j + 1,by omega,by go_num,Lib.hid (fun q h hq => ?_),(by first|exact drewN1 _ _|exact drewN2 _ _ _|exact drewN3 _ _ _ _)⟩
       by_cases hqj:q = j
       ·subst hqj;have:=HN.out;omega
       ·have:=hall.out q h (by omega);omega
      case measure => simp [intOf];omega
    ·obtain rfl:j = ys.length:=by omega
     have HE:Hid (ins cmpT x ys = ys.take ys.length ++ x :: ys.drop ys.length):=Lib.hid (ins_at hj hall.out (fun h => by omega))
     have ij3:decide ((ys.length:Int) < (ys.length:Int)) = false:=by simp
     go_wp2_with fail
     go_quiet (fail)
     by_cases hcj:cap0 = ys.length
     all_goals
      go_wp2_with fail
      go_region_law (first
       | (refine own_step rfl _ _ rfl (.slice oi x.length ci) x (by simp [Act.eval]) wo (by rfl) HR.out hxl ?_;intro ou cu w2 o2 b2 hsz5;have HO4:=HOO.out _ _ (by rfl) b2;obtain ⟨d1,d2,t1l,t2l,t1,t2,t3,hcl,hmk⟩:=HO4.insRow (R:=RS RI) rfl hsz5 hsz2 o2 ys.length hj;rw [← HE.out,← HST.out] at hmk;have T1L:=Lib.hid t1l;have T2L:=Lib.hid t2l;have hbel4:Below w.heap.size w w2:=(hbel.trans (Below.drewN _ _ _)).trans (b2.mono hsz2);clear t1l t2l o2 HO4)
       | (refine step_appendS rfl _ _ 30 rfl 24 (.slice none 0 0) 1 24 tI64S (.slice (some ⟨w2.heap.size,0,none⟩) 1 1) 1 [.slice ou x.length cu] (some w2.heap.size) rfl (by simpa using Row.lit w2 #[.slice ou x.length cu] 24 1 1 (by decide) (by simp)) _ _ _ d2 rfl (by have:=T2L.out;omega) (by intro h;simp) (by intro a ha i u hi;rw [List.eq_nil_of_length_eq_zero (l:=d2) (by have:=T2L.out;omega)] at hi;simp at hi) t2 (by have:=T2L.out;omega) (by have:=T2L.out;unfold maxLen;omega) ?_;intro vA wA ogA happA))
      all_goals
       replace happA:Appended (w2.alloc (.cells #[.slice ou x.length cu] 24)) wA vA 1 (1 + d2.length) ([.slice ou x.length cu] ++ d2) (some w2.heap.size) ogA:=by have e:=T2L.out;first|exact happA|(rw [e];simpa using happA)
       obtain ⟨oA,capA,rfl,pA1,pA2⟩:=happA.1.val
       unfold maxLen at pA2
       have lowA:=happA.low (B:=(w2).heap.size) (by simp) (fun g hg => by cases hg;exact Nat.le_refl _)
       have belA:Below (w2).heap.size (w2) wA:=((Below.refl _ _).alloc (Nat.le_refl _) _).trans lowA.2
       have sA:=belA.size
       have HA:=Lib.hid happA.1
       have HogA:=Lib.hid lowA.1
       have CA:=(hcl wA belA).1
       clear happA lowA
       go_wp2_with (at_builtin;refine StopAt (o:=⟨some 46,_,_,_,_,_⟩) ?_)
       refine Stop.go ?_
       refine wpList_appendS rfl _ _ 30 rfl 24 (.slice none 0 0) 1 24 tI64S (.slice (some ⟨wA.heap.size,0,none⟩) 0 0) 0 [] (some wA.heap.size) rfl (by simpa using Row.lit wA #[] 24 1 0 (by decide) (by simp)) (some ⟨g0,0,none⟩) ys.length _ d1 rfl (by have:=T1L.out;omega) (fun h => by cases h) (by intro a ha i u hi;cases ha;rw [Addr.add_lit,Nat.zero_add];have:=(hcl (wA.alloc (.cells #[] 24)) (belA.alloc sA _)).1 i u hi;exact this) t1 (by have:=T1L.out;omega) (by unfold maxLen;omega) ?_
       intro vB wB ogB happB
       rw [Nat.zero_add,List.nil_append] at happB
       obtain ⟨oB,capB,rfl,pB1,pB2⟩:=happB.1.val
       unfold maxLen at pB2
       have lowB:=happB.low (B:=(w2).heap.size) (Nat.le_trans sA (by simp)) (fun g hg => by cases hg;exact sA)
       have lowB2:=happB.low (B:=wA.heap.size) (by simp) (fun g hg => by cases hg;exact Nat.le_refl _)
       have belB2:Below wA.heap.size wA wB:=((Below.refl _ _).alloc (Nat.le_refl _) _).trans lowB2.2
       have belB:Below (w2).heap.size (w2) wB:=belA.trans (belB2.mono sA)
       have sB:=belB.size
       have hrA:Row wB (.slice oA (1 + d2.length) capA) 1 (1 + d2.length) ([(.slice ou x.length cu)] ++ d2) ogA:=HA.out.frame (fun g hg => belB2.block g (HA.out.lt g hg))
       obtain ⟨gA,hgA⟩:=hrA.some_of (j:=0) (by omega)
       subst hgA
       obtain ⟨oA',cA',eA,_,_,_,eA2⟩:=hrA.value
       simp only [Value.slice.injEq,true_and] at eA
       obtain ⟨rfl,rfl⟩:=eA
       simp only [Option.map_some] at eA2
       subst eA2
       have HRA:=Lib.hid hrA
       have HB:=Lib.hid happB.1
       have HogB:=Lib.hid lowB.1
       clear hrA happB lowB lowB2 CA
       go_wp2_with (at_builtin;refine StopAt (o:=⟨some 48,_,_,_,_,_⟩) ?_)
       refine Stop.go ?_
       refine wpList_appendS rfl _ _ 30 rfl 24 (.slice none 0 0) 1 24 tI64S (.slice oB ys.length capB) ys.length d1 ogB rfl HB.out (some ⟨gA,0,none⟩) _ _ ([(.slice ou x.length cu)] ++ d2) rfl (by simp <;> omega) (fun h => by cases h) (by intro a ha i u hi;cases ha;rw [Addr.add_lit,Nat.zero_add];exact HRA.out.cells i u hi) (fun u hu => (List.mem_append.1 hu).elim (fun h => by simp at h;subst h;exact t3) (t2 u)) (by have:=T2L.out;omega) (by have:=T2L.out;unfold maxLen;omega) ?_
       intro vC wC ogC happC
       have lowC:=happC.low (B:=(w2).heap.size) sB HogB.out
       have belC:Below (w2).heap.size (w2) wC:=belB.trans lowC.2
       have hrC:=happC.1
       have eN:ys.length + (1 + d2.length) = ys.length + 1:=by have:=T1L.out;have:=T2L.out;omega
       rw [eN,List.singleton_append] at hrC
       have hfin:=hmk wC vC ogC belC hrC lowC.1
       obtain ⟨gC,hgC⟩:=hrC.some_of (j:=0) (by omega)
       subst hgC
       obtain ⟨capC,hvC,_,_⟩:=hrC.slice
       subst hvC
       have HFIN:=Lib.hid hfin
       clear hfin hrC happC lowC HA HB HRA HogA HogB eN
       have hfl:(sortC cmpT (bs.take (k + 1))).length = ys.length + 1:=by rw [sortC_length];simp;rw [Hyl.out];omega
       obtain ⟨zs,hzs⟩:∃ zs,zs = sortC cmpT (bs.take (k + 1)):=⟨_,rfl⟩
       rw [← hzs] at HFIN hfl
       have hkz:zs.length = k + 1:=by rw [hfl,Hyl.out]
       rw [← hfl] at HFIN
       rw [← hfl]
       have HZ:=Lib.hid hzs
       have HKZ:=Lib.hid hkz
       clear hzs hfl hkz
       go_wp2_with fail
       go_roundw
       case rel => exact ⟨k + 1,zs,by omega,by go_num,HZ,HKZ,⟨_,_,rfl⟩,HFIN,hbel4.trans (belC.mono (Nat.le_trans hsz2 hsz5))⟩
       case measure => simp [intOf];omega
  ·have hfin:Hid (ys = forest bs):=Lib.hid (by rw [hys.out,List.take_of_length_le (by omega)];rfl)
   have hkb:¬ ((k:Int) < (bs.length:Int)):=by omega
   clear hlt
   go_wp2_with fail
   go_ret
   exact ⟨_,rfl,by rw [← hfin.out];exact hown.out,hbel⟩
end Go.Proofs.Ytofpjonggpjneaa
namespace Go.Proofs.Ytofpjonggpjneaa
open Go.RowKit
theorem AFn.val1 {P:Program} {f:FuncId} {ds:List (List D)} {k:Nat} {xs:List (List D)} (h:AFn P f ds (· = [.own k xs false])):AFn P f ds (· = [.val (.sl k xs)]):=by
 refine ⟨h.call,fun A w vs hA hr => (h.fn A w vs hA hr).mono ?_⟩
 rintro e w' ⟨v,rs,rfl,rfl,hb,us,G,X,rfl,hG1,hG2,v1,us1,G1,G2,Y1,Y2,rfl,rfl,rfl,ho,⟨og,cap,F,dd,rfl,hrow,hk,rfl,rfl,hel⟩,rfl,rfl,rfl⟩
 refine ⟨_,_,rfl,rfl,hb,[_],[],[],rfl,List.nodup_nil,(fun b hb => nomatch hb),_,[],[],[],[],[],rfl,rfl,rfl,ho,⟨?_,rfl,rfl⟩,rfl,rfl,rfl⟩
 have hel:rdR k (fun b => (A b ∨ w.heap.size ≤ b)∧b ∉ og.toList ++ []) w' dd xs:=hel
 obtain ⟨oa,c,e,h1,h2,h3,h4⟩:=slv_len hrow
 refine rdV_sl.2 ⟨oa,c,dd,e,h1,h2,h3,hel.mono (fun b hb _ => ⟨hb.1,by simp⟩),?_⟩
 cases og with
 | none =>
  left
  have:=hrow.len0
  exact List.eq_nil_of_length_eq_zero (by rw [hrow.1,this,Nat.zero_mul])
 | some g =>
  refine .inr ⟨g,0,h4,⟨.inr (hG2 g (by simp)),by simp⟩,fun j u hj => ?_⟩
  rw [Nat.zero_add]
  exact hrow.cells j u hj
def SmF (f:List (List Int)):Prop:=f.length ≤ 19∧sumLen f ≤ 100
instance (f:List (List Int)):Decidable (SmF f):=inferInstanceAs (Decidable (_∧_))
theorem SmF.b {f:List (List Int)} (h:SmF f):∀ b ∈ f,b.length ≤ 1000:=fun b hb => by have:=sumLen_mem hb;have:=h.2;omega
theorem AFn.valT {P:Program} {f:FuncId} {ds:List (List D)} {k:Nat} {xs:List (List D)} (h:AFn P f ds (· = [.own k xs true])):AFn P f ds (· = [.val (.sl k xs)]):=by
 refine ⟨h.call,fun A w vs hA hr => (h.fn A w vs hA hr).mono ?_⟩
 rintro e w' ⟨v,rs,rfl,rfl,hb,us,G,X,rfl,hG1,hG2,v1,us1,G1,G2,Y1,Y2,rfl,rfl,rfl,ho,⟨og,cap,F,dd,rfl,hrow,hk,rfl,rfl,hel⟩,rfl,rfl,rfl⟩
 refine ⟨_,_,rfl,rfl,hb,[_],[],[],rfl,List.nodup_nil,(fun b hb => nomatch hb),_,[],[],[],[],[],rfl,rfl,rfl,ho,⟨?_,rfl,rfl⟩,rfl,rfl,rfl⟩
 have hel:ownR k w' dd xs F:=hel
 have hv:=ownV_sl.2 ⟨og,dd,F,hrow,hel,rfl⟩
 exact hv.rd.mono (fun b hb _ => ⟨.inr (hG2 b (by simpa using hb)),by simp⟩)
theorem a_l03Sort (f:List (List Int)) (hl:f.length ≤ 1000) (hs:∀ b ∈ f,b.length ≤ 1000):AFn Try.prog 179 [eLL f] (· = [.own 1 ((forest f).map eL) true]) :=
 afn_LLL_oo (enters_of Try.func179 rfl rfl) (fun u w h => c_spec_l03Sort u f w h (by omega) (fun b hb => by have:=hs b hb;omega))
set_option maxHeartbeats 2000000 in
theorem a_l03Times (f g:List (List Int)) (hl:f.length ≤ 400) (hs:∀ b ∈ f,b.length ≤ 1000) (hl2:g.length ≤ 400) (hs2:∀ b ∈ g,b.length ≤ 1000):AFn Try.prog 138 [eLL f,eLL g] (· = [.own 1 ((mulF f g).map eL) true]):=by
 have h1:=a_l01Own2 f (by omega) hs
 have h2:=a_l03Sort (f ++ g) (by rw [List.length_append];omega) (fun b hb => by
  rcases List.mem_append.1 hb with hb|hb
  ·exact hs b hb
  ·exact hs2 b hb)
 simp only [eLL,List.map_append] at h1 h2
 have q1:=big_le (n:=f.length + g.length) (by omega)
 have q2:=big_mul (n:=f.length + g.length) (c:=24) (by omega) (by omega)
 have e:mulF f g = forest (f ++ g):=rfl
 rw [e]
 refine AFn.of_runs (cfg_ok 10) Try.func138 rfl rfl rfl (by simp only [List.length_cons,List.length_nil];decide) ?_
 have hres:Try.f138.results.toList = [.tmp 4]:=rfl
 have hrts:Try.f138.resultTypes.toList = [30]:=rfl
 simp only [argRegs,argAV1,eL,eI,eLL,eB,Nat.zero_add,Nat.reduceAdd]
 intro M
 refine RunK.of ?_
 repeat' (first|with_reducible (first|refine Q1 ?_|refine Q2 ?_|refine Q3 ?_|refine Q4 ?_|refine Q5 ?_|refine Q6 ?_|refine Q7 ?_|refine Q8 ?_|refine Q9 ?_|refine Qa ?_|refine Qb ?_|refine Qc ?_|refine Qd ?_|refine Qe ?_|refine Qf ?_)|((with_reducible refine Qo ?_ ?_);focus rfl)|((with_reducible first|refine QT 5 (l:=?_) ?_ ?_|refine QF 5 (l:=?_) ?_ ?_);rotate_left 1;focus (simp only [Zu,Nat.reduceSub,Nat.reduceBEq];with_reducible rfl))|((with_reducible first|refine QS (cfg_ok 10) (((Tab.none.at' 180 h1).at' 179 h2)) (s':=?_) ?_ ?_|refine QC (b:=?_) ?_ ?_);rotate_left 1;focus ((with_reducible refine QW ?_);simp only [Zg,seval,if_true,if_false,reduceCtorEq,Nat.reduceEqDiff,q1,q2,List.length_map];with_reducible rfl)))
 (refine Ends.mk (by simp) (rs:=?_) (ks:=?_) hres hrts ?_ ?_ ?_;rotate_left 2;(focus (simp only [Ze,Zg,seval,if_true,if_false,reduceCtorEq,Nat.reduceEqDiff];with_reducible rfl));(focus simp);focus (first|with_reducible rfl|(simp only [Zv];done)))
theorem a_canonical13 (t:List Int) (h:LevP t) (hl:t.length ≤ 13):AFn Try.prog 105 [eL t] (· = [.own 1 ((canon t).map eI) true]) :=
 afn_L_o (enters_of Try.func105 rfl rfl) (fun u w h' => c_impl_canonical 13 u t w h' h hl (by omega))
theorem a_rootOn (f:List (List Int)) (hs:Small f) (hsz:sumLen f ≤ 1000000000):AFn Try.prog 129 [eLL f] (· = [.own 1 ((rootOn f).map eI) true]) :=
 afn_LLL_o (enters_of Try.func129 rfl rfl) (fun u w h => c_impl_rootOn u f w h hs hsz)
theorem a_l03CanonB (t:List Int) (h:LevP t) (hl:t.length ≤ 1000):AFn Try.prog 112 [eL t] (· = [.own 1 ((canon t).map eI) true]) :=
 afn_L_o (enters_of Try.func112 rfl rfl) (fun u w h' => c_spec_l03Canon 1000 u t w h' h hl (by omega))
set_option maxHeartbeats 4000000 in
theorem a_l03Root (f:List (List Int)) (hf:SmF f) (hlev:∀ b ∈ f,LevP b):AFn Try.prog 194 [eLL f] (· = [.own 1 ((canon (rootOn f)).map eI) true]):=by
 have hrl:=rootOn_len f
 have hca:=a_l03CanonB (rootOn f) (rootOn_lev hlev) (by have:=hf.2;omega)
 simp only [eL] at hca
 have hsum:∀ i,(rootOn (f.take i)).length ≤ 101:=fun i => by
  rw [rootOn_len]
  have h1:=hf.2
  have h2:sumLen (f.take i) ≤ sumLen f:=by
   conv => rhs;rw [← List.take_append_drop i f]
   simp only [sumLen,List.map_append,List.sum_append];omega
  omega
 refine AFn.of_runs (cfg_ok 35) Try.func194 rfl rfl rfl (by simp only [List.length_cons,List.length_nil];decide) ?_
 have hres:Try.f194.results.toList = [.tmp 2]:=rfl
 have hrts:Try.f194.resultTypes.toList = [24]:=rfl
 simp only [argRegs,argAV1,eL,eI,eLL,eB,Nat.zero_add,Nat.reduceAdd]
 intro M
 refine RunK.of ?_
 repeat' (first|with_reducible (first|refine Q1 ?_|refine Q2 ?_|refine Q3 ?_|refine Q4 ?_|refine Q5 ?_|refine Q6 ?_|refine Q7 ?_|refine Q8 ?_|refine Q9 ?_|refine Qa ?_|refine Qb ?_|refine Qc ?_|refine Qd ?_|refine Qe ?_|refine Qf ?_)|((with_reducible refine Qo ?_ ?_);focus rfl)|((with_reducible first|refine QT 6 (l:=?_) ?_ ?_|refine QF 6 (l:=?_) ?_ ?_);rotate_left 1;focus (simp only [Zu,Nat.reduceSub,Nat.reduceBEq];with_reducible rfl))|((with_reducible first|refine QS (cfg_ok 35) Tab.none (s':=?_) ?_ ?_|refine QC (b:=?_) ?_ ?_);rotate_left 1;focus ((with_reducible refine QW ?_);simp only [Zg,seval,if_true,if_false,reduceCtorEq,Nat.reduceEqDiff];with_reducible rfl)))
 refine RunK.loop (β:=Nat) (γ:=Unit) (fun i => ⟨[(0,.c (.val (.sl 1 (f.map eL)))),(3,.c (.own 3 (rootOn (f.take i)).length)),(4,.c (.val (.int i)))],[(3,.row 1 ((rootOn (f.take i)).map eI) true)]⟩) (fun i => i ≤ f.length) (fun i => f.length - i)
  (fun _ => ⟨[(3,.c (.own 3 (rootOn f).length))],[(3,.row 1 ((rootOn f).map eI) true)]⟩) (fun _ => True) 0 (Nat.zero_le _) ?_ ?_ ?_
 ·(repeat' (first|with_reducible refine Qn|((with_reducible refine Qr ?_ ?_);focus (first|with_reducible rfl|(simp only [Zz,Nat.reduceBEq,List.take_zero,show rootOn [] = [0] from rfl,eI,List.map_cons,List.map_nil,List.length_cons,List.length_nil];done)|rfl))|((with_reducible refine Qj (o':=?_) ?_ ?_ ?_);rotate_left 1;focus rfl)|((with_reducible refine Qw ?_ ?_);(focus (first|with_reducible rfl|(simp only [Zv,List.take_zero,show rootOn [] = [0] from rfl,eI,List.map_cons,List.map_nil,List.length_cons,List.length_nil];done)));focus (first|exact id|exact (fun h => nomatch h)|exact (fun _ => rfl)))))
 ·intro i hi
  have hi:i ≤ f.length:=hi
  have hw:=w64_succ (n:=i) (by have:=hf.1;omega)
  by_cases h:i < f.length
  ·have i1:((i:Int) < (f.length:Int)) = True:=eq_true (by omega)
   have i2:((0:Int) ≤ (i:Int)) = True:=eq_true (by omega)
   obtain ⟨b,hb⟩:∃ b,b = f[i]:=⟨_,rfl⟩
   have hg:(f.map eL)[i]? = some [.sl 1 (b.map eI)]:=by rw [map_get h,hb];rfl
   have hbl:b.length ≤ 100:=by have:=sumLen_mem (show b ∈ f by rw [hb];exact List.getElem_mem _);have:=hf.2;omega
   have hbs:=(hlev b (by rw [hb];exact List.getElem_mem _)).small (by omega)
   have hst:rootOn (f.take (i + 1)) = rootOn (f.take i) ++ b.map (· + 1):=by rw [List.take_succ_eq_append_getElem h,rootOn_snoc,hb]
   have hsi:=hsum i
   repeat' (first|with_reducible (first|refine Q1 ?_|refine Q2 ?_|refine Q3 ?_|refine Q4 ?_|refine Q5 ?_|refine Q6 ?_|refine Q7 ?_|refine Q8 ?_|refine Q9 ?_|refine Qa ?_|refine Qb ?_|refine Qc ?_|refine Qd ?_|refine Qe ?_|refine Qf ?_)|((with_reducible refine Qo ?_ ?_);focus rfl)|((with_reducible first|refine QT 6 (l:=?_) ?_ ?_|refine QF 6 (l:=?_) ?_ ?_);rotate_left 1;focus (simp only [Zu,Nat.reduceSub,Nat.reduceBEq];with_reducible rfl))|((with_reducible first|refine QS (cfg_ok 35) Tab.none (s':=?_) ?_ ?_|refine QC (b:=?_) ?_ ?_);rotate_left 1;focus ((with_reducible refine QW ?_);simp only [Zg,seval,if_true,if_false,reduceCtorEq,Nat.reduceEqDiff,i1,List.length_map];with_reducible rfl)))
   refine RunK.loop (β:=Nat) (γ:=Unit) (fun k => ⟨[(0,.c (.val (.sl 1 (f.map eL)))),(3,.c (.own 3 ((rootOn (f.take i)).length + k))),(4,.c (.val (.int i))),(5,.c (.val (.int k)))],[(3,.row 1 ((rootOn (f.take i) ++ (b.take k).map (· + 1)).map eI) true)]⟩) (fun k => k ≤ b.length) (fun k => b.length - k)
    (fun _ => ⟨[(0,.c (.val (.sl 1 (f.map eL)))),(3,.c (.own 3 ((rootOn (f.take i)).length + b.length))),(4,.c (.val (.int i)))],[(3,.row 1 ((rootOn (f.take (i + 1))).map eI) true)]⟩) (fun _ => True) 0 (Nat.zero_le _) ?_ ?_ ?_
   ·(repeat' (first|with_reducible refine Qn|((with_reducible refine Qr ?_ ?_);focus (first|with_reducible rfl|(simp only [Zz,Nat.reduceBEq,List.take_zero,List.map_nil,List.append_nil];done)|rfl))|((with_reducible refine Qj (o':=?_) ?_ ?_ ?_);rotate_left 1;focus rfl)|((with_reducible refine Qw ?_ ?_);(focus (first|with_reducible rfl|(simp only [Zv,List.take_zero,List.map_nil,List.append_nil];done)));focus (first|exact id|exact (fun h => nomatch h)|exact (fun _ => rfl)))))
   ·intro k hk
    have hk:k ≤ b.length:=hk
    have hwk:=w64_succ (n:=k) (by omega)
    have hlen:((rootOn (f.take i) ++ (b.take k).map (· + 1)).map eI).length = (rootOn (f.take i)).length + k:=by
     rw [List.length_map,List.length_append,List.length_map,List.length_take];omega
    by_cases hkb:k < b.length
    ·have k1:((k:Int) < (b.length:Int)) = True:=eq_true (by omega)
     have k2:((0:Int) ≤ (k:Int)) = True:=eq_true (by omega)
     obtain ⟨x,hx⟩:∃ x,x = b[k]:=⟨_,rfl⟩
     have hxb:=hbs b[k] (List.getElem_mem _)
     rw [← hx] at hxb
     have hgx:(b.map eI)[k]? = some [.int x]:=by rw [map_get hkb,hx];rfl
     have hwx:=w64_eq (n:=x + 1) (by omega)
     have q1:=big_le (n:=(rootOn (f.take i)).length + k + 1) (by omega)
     have q2:=big_mul (n:=(rootOn (f.take i)).length + k + 1) (c:=8) (by omega) (by omega)
     have htk:(b.take (k + 1)).map (· + 1) = (b.take k).map (· + 1) ++ [x + 1]:=by rw [List.take_succ_eq_append_getElem hkb,List.map_append,hx];rfl
     have hlf:(f.map eL).length = f.length:=List.length_map _
     have hlb:(b.map eI).length = b.length:=List.length_map _
     repeat' (first|with_reducible (first|refine Q1 ?_|refine Q2 ?_|refine Q3 ?_|refine Q4 ?_|refine Q5 ?_|refine Q6 ?_|refine Q7 ?_|refine Q8 ?_|refine Q9 ?_|refine Qa ?_|refine Qb ?_|refine Qc ?_|refine Qd ?_|refine Qe ?_|refine Qf ?_)|((with_reducible refine Qo ?_ ?_);focus rfl)|((with_reducible first|refine QT 6 (l:=?_) ?_ ?_|refine QF 6 (l:=?_) ?_ ?_);rotate_left 1;focus (simp only [Zu,Nat.reduceSub,Nat.reduceBEq];with_reducible rfl))|((with_reducible first|refine QS (cfg_ok 35) Tab.none (s':=?_) ?_ ?_|refine QC (b:=?_) ?_ ?_);rotate_left 1;focus ((with_reducible refine QW ?_);simp only [Zg,seval,if_true,if_false,reduceCtorEq,Nat.reduceEqDiff,i1,i2,k1,k2,hg,hgx,hwk,hwx,q1,q2,hlen,hlf,hlb,Int.toNat_natCast];with_reducible rfl)))
     refine roundK.on (k + 1) ⟨hkb,by omega⟩ ?_
     rw [htk,← List.append_assoc]
     (repeat' (first|with_reducible refine Qn|((with_reducible refine Qr ?_ ?_);focus (first|with_reducible rfl|(simp only [Zz,Nat.reduceBEq,eI];done)|rfl))|((with_reducible refine Qj (o':=?_) ?_ ?_ ?_);rotate_left 1;focus rfl)|((with_reducible refine Qw ?_ ?_);(focus (first|with_reducible rfl|(simp only [Zv,eI];done)));focus (first|exact id|exact (fun h => nomatch h)|exact (fun _ => rfl)))))
    ·have k1:((k:Int) < (b.length:Int)) = False:=eq_false (by omega)
     obtain rfl:k = b.length:=by omega
     have hlf:(f.map eL).length = f.length:=List.length_map _
     have hlb:(b.map eI).length = b.length:=List.length_map _
     rw [List.take_length,← hst]
     repeat' (first|with_reducible (first|refine Q1 ?_|refine Q2 ?_|refine Q3 ?_|refine Q4 ?_|refine Q5 ?_|refine Q6 ?_|refine Q7 ?_|refine Q8 ?_|refine Q9 ?_|refine Qa ?_|refine Qb ?_|refine Qc ?_|refine Qd ?_|refine Qe ?_|refine Qf ?_)|((with_reducible refine Qo ?_ ?_);focus rfl)|((with_reducible first|refine QT 6 (l:=?_) ?_ ?_|refine QF 6 (l:=?_) ?_ ?_);rotate_left 1;focus (simp only [Zu,Nat.reduceSub,Nat.reduceBEq];with_reducible rfl))|((with_reducible first|refine QS (cfg_ok 35) Tab.none (s':=?_) ?_ ?_|refine QC (b:=?_) ?_ ?_);rotate_left 1;focus ((with_reducible refine QW ?_);simp only [Zg,seval,if_true,if_false,reduceCtorEq,Nat.reduceEqDiff,i1,i2,k1,hg,hlf,hlb,Int.toNat_natCast];with_reducible rfl)))
     refine roundK.out () trivial ?_
     (repeat' (first|with_reducible refine Qn|((with_reducible refine Qr ?_ ?_);focus (first|with_reducible rfl|(simp only [Zz,Nat.reduceBEq];done)|rfl))|((with_reducible refine Qj (o':=?_) ?_ ?_ ?_);rotate_left 1;focus rfl)|((with_reducible refine Qw ?_ ?_);(focus (first|with_reducible rfl|(simp only [Zv];done)));focus (first|exact id|exact (fun h => nomatch h)|exact (fun _ => rfl)))))
   ·rintro _ _
    repeat' (first|with_reducible (first|refine Q1 ?_|refine Q2 ?_|refine Q3 ?_|refine Q4 ?_|refine Q5 ?_|refine Q6 ?_|refine Q7 ?_|refine Q8 ?_|refine Q9 ?_|refine Qa ?_|refine Qb ?_|refine Qc ?_|refine Qd ?_|refine Qe ?_|refine Qf ?_)|((with_reducible refine Qo ?_ ?_);focus rfl)|((with_reducible first|refine QT 6 (l:=?_) ?_ ?_|refine QF 6 (l:=?_) ?_ ?_);rotate_left 1;focus (simp only [Zu,Nat.reduceSub,Nat.reduceBEq];with_reducible rfl))|((with_reducible first|refine QS (cfg_ok 35) Tab.none (s':=?_) ?_ ?_|refine QC (b:=?_) ?_ ?_);rotate_left 1;focus ((with_reducible refine QW ?_);simp only [Zg,seval,if_true,if_false,reduceCtorEq,Nat.reduceEqDiff,hw];with_reducible rfl)))
    refine roundK.on (i + 1) ⟨h,by omega⟩ ?_
    have hl2:(rootOn (f.take (i + 1))).length = (rootOn (f.take i)).length + b.length:=by rw [hst,List.length_append,List.length_map]
    rw [hl2]
    (repeat' (first|with_reducible refine Qn|((with_reducible refine Qr ?_ ?_);focus (first|with_reducible rfl|(simp only [Zz,Nat.reduceBEq];done)|rfl))|((with_reducible refine Qj (o':=?_) ?_ ?_ ?_);rotate_left 1;focus rfl)|((with_reducible refine Qw ?_ ?_);(focus (first|with_reducible rfl|(simp only [Zv];done)));focus (first|exact id|exact (fun h => nomatch h)|exact (fun _ => rfl)))))
  ·have i1:((i:Int) < (f.length:Int)) = False:=eq_false (by omega)
   obtain rfl:i = f.length:=by omega
   rw [List.take_length]
   repeat' (first|with_reducible (first|refine Q1 ?_|refine Q2 ?_|refine Q3 ?_|refine Q4 ?_|refine Q5 ?_|refine Q6 ?_|refine Q7 ?_|refine Q8 ?_|refine Q9 ?_|refine Qa ?_|refine Qb ?_|refine Qc ?_|refine Qd ?_|refine Qe ?_|refine Qf ?_)|((with_reducible refine Qo ?_ ?_);focus rfl)|((with_reducible first|refine QT 6 (l:=?_) ?_ ?_|refine QF 6 (l:=?_) ?_ ?_);rotate_left 1;focus (simp only [Zu,Nat.reduceSub,Nat.reduceBEq];with_reducible rfl))|((with_reducible first|refine QS (cfg_ok 35) Tab.none (s':=?_) ?_ ?_|refine QC (b:=?_) ?_ ?_);rotate_left 1;focus ((with_reducible refine QW ?_);simp only [Zg,seval,if_true,if_false,reduceCtorEq,Nat.reduceEqDiff,i1,List.length_map];with_reducible rfl)))
   refine roundK.out () trivial ?_
   (repeat' (first|with_reducible refine Qn|((with_reducible refine Qr ?_ ?_);focus (first|with_reducible rfl|(simp only [Zz,Nat.reduceBEq];done)|rfl))|((with_reducible refine Qj (o':=?_) ?_ ?_ ?_);rotate_left 1;focus rfl)|((with_reducible refine Qw ?_ ?_);(focus (first|with_reducible rfl|(simp only [Zv];done)));focus (first|exact id|exact (fun h => nomatch h)|exact (fun _ => rfl)))))
 ·rintro _ _
  repeat' (first|with_reducible (first|refine Q1 ?_|refine Q2 ?_|refine Q3 ?_|refine Q4 ?_|refine Q5 ?_|refine Q6 ?_|refine Q7 ?_|refine Q8 ?_|refine Q9 ?_|refine Qa ?_|refine Qb ?_|refine Qc ?_|refine Qd ?_|refine Qe ?_|refine Qf ?_)|((with_reducible refine Qo ?_ ?_);focus rfl)|((with_reducible first|refine QT 6 (l:=?_) ?_ ?_|refine QF 6 (l:=?_) ?_ ?_);rotate_left 1;focus (simp only [Zu,Nat.reduceSub,Nat.reduceBEq];with_reducible rfl))|((with_reducible first|refine QS (cfg_ok 35) (Tab.none.at' 112 hca) (s':=?_) ?_ ?_|refine QC (b:=?_) ?_ ?_);rotate_left 1;focus ((with_reducible refine QW ?_);simp only [Zg,seval,if_true,if_false,reduceCtorEq,Nat.reduceEqDiff];with_reducible rfl)))
  (refine Ends.mk (by simp) (rs:=?_) (ks:=?_) hres hrts ?_ ?_ ?_;rotate_left 2;(focus (simp only [Ze,Zg,seval,if_true,if_false,reduceCtorEq,Nat.reduceEqDiff];with_reducible rfl));(focus simp);focus (first|with_reducible rfl|(simp only [Zv];done)))
theorem z10:((1:Int) == 0) = false:=rfl
theorem z00:((0:Int) == 0) = true:=rfl
theorem zm0:((-1:Int) == 0) = false:=rfl
end Go.Proofs.Ytofpjonggpjneaa
namespace Go.Proofs.Ytofpjonggpjneaa
open Go.RowKit
theorem lexC_step {α:Type} {c:α→α→Int} {f g:List α} {k:Nat} (h1:k < f.length) (h2:k < g.length):lexC c (f.drop k) (g.drop k) = if c f[k] g[k] = 0 then lexC c (f.drop (k + 1)) (g.drop (k + 1)) else c f[k] g[k]:=by
 rw [List.drop_eq_getElem_cons h1,List.drop_eq_getElem_cons h2];rfl
theorem lexC_end0 {α:Type} {c:α→α→Int} {f g:List α} {k:Nat} (h1:¬ k < f.length) (h2:¬ k < g.length):lexC c (f.drop k) (g.drop k) = 0:=by
 rw [List.drop_eq_nil_of_le (Nat.not_lt.1 h1),List.drop_eq_nil_of_le (Nat.not_lt.1 h2)];rfl
end Go.Proofs.Ytofpjonggpjneaa
namespace Go.Proofs.Ytofpjonggpjneaa
def canT (t:List Int):Bool:=lev8 t && decide (canon t = t)
end Go.Proofs.Ytofpjonggpjneaa
namespace Go.Proofs.Ytofpjonggpjneaa
open Go.RowKit
end Go.Proofs.Ytofpjonggpjneaa
namespace Go.Proofs.Ytofpjonggpjneaa
open Go.RowKit
theorem a_spec_IsTree (t:List Int) (hsz:t.length ≤ 1048576):AFn Try.prog 178 [eL t] (· = [.val (.bool (canT t))]):=by
 have h1:=a_spec_l03Is t hsz
 unfold canT
 cases h8:lev8 t
 ·rw [h8] at h1
  rw [Bool.false_and]
  refine AFn.of_runs (cfg_ok 11) Try.func178 rfl rfl rfl (by simp only [List.length_cons,List.length_nil];decide) ?_
  have hres:Try.f178.results.toList = [.tmp 2]:=rfl
  have hrts:Try.f178.resultTypes.toList = [4]:=rfl
  simp only [argRegs,argAV1,eL,eI,eLL,eB,Nat.zero_add,Nat.reduceAdd]
  intro M
  refine RunK.of ?_
  repeat' (first|with_reducible (first|refine Q1 ?_|refine Q2 ?_|refine Q3 ?_|refine Q4 ?_|refine Q5 ?_|refine Q6 ?_|refine Q7 ?_|refine Q8 ?_|refine Q9 ?_|refine Qa ?_|refine Qb ?_|refine Qc ?_|refine Qd ?_|refine Qe ?_|refine Qf ?_)|((with_reducible refine Qo ?_ ?_);focus rfl)|((with_reducible first|refine QT 3 (l:=?_) ?_ ?_|refine QF 3 (l:=?_) ?_ ?_);rotate_left 1;focus (simp only [Zu,Nat.reduceSub,Nat.reduceBEq];with_reducible rfl))|((with_reducible first|refine QS (cfg_ok 11) (Tab.none.at' 110 h1) (s':=?_) ?_ ?_|refine QC (b:=?_) ?_ ?_);rotate_left 1;focus ((with_reducible refine QW ?_);simp only [Zg,seval,if_true,if_false,reduceCtorEq,Nat.reduceEqDiff,eL];with_reducible rfl)))
  (refine Ends.mk (by simp) (rs:=?_) (ks:=?_) hres hrts ?_ ?_ ?_;rotate_left 2;(focus (simp only [Ze,Zg,seval,if_true,if_false,reduceCtorEq,Nat.reduceEqDiff];with_reducible rfl));(focus simp);focus (first|with_reducible rfl|(simp only [Zv];done)))
 ·rw [h8] at h1
  rw [Bool.true_and]
  have h2:=a_l03Canon t (lev8_lev h8) (lev8_len h8)
  have h3:=a_l01Same (canon t) t
  refine AFn.of_runs (cfg_ok 11) Try.func178 rfl rfl rfl (by simp only [List.length_cons,List.length_nil];decide) ?_
  have hres:Try.f178.results.toList = [.tmp 2]:=rfl
  have hrts:Try.f178.resultTypes.toList = [4]:=rfl
  simp only [argRegs,argAV1,eL,eI,eLL,eB,Nat.zero_add,Nat.reduceAdd]
  intro M
  refine RunK.of ?_
  repeat' (first|with_reducible (first|refine Q1 ?_|refine Q2 ?_|refine Q3 ?_|refine Q4 ?_|refine Q5 ?_|refine Q6 ?_|refine Q7 ?_|refine Q8 ?_|refine Q9 ?_|refine Qa ?_|refine Qb ?_|refine Qc ?_|refine Qd ?_|refine Qe ?_|refine Qf ?_)|((with_reducible refine Qo ?_ ?_);focus rfl)|((with_reducible first|refine QT 3 (l:=?_) ?_ ?_|refine QF 3 (l:=?_) ?_ ?_);rotate_left 1;focus (simp only [Zu,Nat.reduceSub,Nat.reduceBEq];with_reducible rfl))|((with_reducible first|refine QS (cfg_ok 11) (((Tab.none.at' 110 h1).at' 112 h2).at' 182 h3) (s':=?_) ?_ ?_|refine QC (b:=?_) ?_ ?_);rotate_left 1;focus ((with_reducible refine QW ?_);simp only [Zg,seval,if_true,if_false,reduceCtorEq,Nat.reduceEqDiff,eL];with_reducible rfl)))
  (refine Ends.mk (by simp) (rs:=?_) (ks:=?_) hres hrts ?_ ?_ ?_;rotate_left 2;(focus (simp only [Ze,Zg,seval,if_true,if_false,reduceCtorEq,Nat.reduceEqDiff];with_reducible rfl));(focus simp);focus (first|with_reducible rfl|(simp only [Zv];done)))
noncomputable def TForS:Tab Try.prog :=
 ((Tab.none.add 178 (tab1 codL fun t => if t.length ≤ 1048576 then some [.val (.bool (canT t))] else none) (tab1_ok fun t rs h => by split at h;cases h;exact a_spec_IsTree t ‹_›;cases h)).add
   124 (tab2 codL codL fun xs ys => some [.val (.bool (decide (cmpT xs ys < 0)))]) (tab2_ok fun xs ys rs h => by cases h;exact a_l03Before xs ys)).add
   137 (tab1 codLL fun f => some [.val (.int (nodesB f))]) (tab1_ok fun f rs h => by cases h;exact a_l03Nodes f)
end Go.Proofs.Ytofpjonggpjneaa
namespace Go.Proofs.Ytofpjonggpjneaa
open Go.RowKit
theorem sgn_neg {n:Int} (h:n < 0):sgn n = -1:=by unfold sgn;rw [if_pos h]
theorem sgn_pos {n:Int} (h:0 < n):sgn n = 1:=by unfold sgn;rw [if_neg (by omega),if_neg (by omega)]
theorem sgn_zero:sgn 0 = 0:=rfl
set_option maxHeartbeats 4000000 in
theorem a_l05Compare (f g:List (List Int)) (hf:f.length ≤ 1000000000) (hg:g.length ≤ 1000000000):AFn Try.prog 216 [eLL f,eLL g] (· = [.val (.int (sgn (cmpN f g)))]):=by
 rw [cmpN_eq]
 refine AFn.of_runs (cfg_ok 42) Try.func216 rfl rfl rfl (by simp only [List.length_cons,List.length_nil];decide) ?_
 have hres:Try.f216.results.toList = [.tmp 4]:=rfl
 have hrts:Try.f216.resultTypes.toList = [2]:=rfl
 simp only [argRegs,argAV1,eL,eI,eLL,eB,Nat.zero_add,Nat.reduceAdd]
 intro M
 refine RunK.of ?_
 by_cases hl:f.length = g.length
 ·have hb:((f.length:Int) != (g.length:Int)) = false:=by simp [hl]
  rw [if_pos (by rw [hl])]
  repeat' (first|with_reducible (first|refine Q1 ?_|refine Q2 ?_|refine Q3 ?_|refine Q4 ?_|refine Q5 ?_|refine Q6 ?_|refine Q7 ?_|refine Q8 ?_|refine Q9 ?_|refine Qa ?_|refine Qb ?_|refine Qc ?_|refine Qd ?_|refine Qe ?_|refine Qf ?_)|((with_reducible refine Qo ?_ ?_);focus rfl)|((with_reducible first|refine QT 6 (l:=?_) ?_ ?_|refine QF 6 (l:=?_) ?_ ?_);rotate_left 1;focus (simp only [Zu,Nat.reduceSub,Nat.reduceBEq];with_reducible rfl))|((with_reducible first|refine QS (cfg_ok 42) TForS (s':=?_) ?_ ?_|refine QC (b:=?_) ?_ ?_);rotate_left 1;focus ((with_reducible refine QW ?_);simp only [Zg,seval,if_true,if_false,reduceCtorEq,Nat.reduceEqDiff,TForS,hb,eL,List.length_map];with_reducible rfl))|((with_reducible refine QD (cfg_ok 42) TForS mixed_ok (tr:=?_) (s':=?_) ?_ ?_ ?_);rotate_left 2;(focus ((with_reducible refine QW ?_);simp only [Zg,Zd,seval,if_true,if_false,reduceCtorEq,Nat.reduceEqDiff,TForS,hb,eL,List.length_map];with_reducible rfl));focus ((with_reducible refine QK ?_);simp only [Zk];kernel_rfl)))
  refine RunK.loop (β:=Nat) (γ:=Unit) (fun i => ⟨[(0,.c (.val (.sl 1 (f.map eL)))),(1,.c (.val (.sl 1 (g.map eL)))),(5,.c (.val (.int i)))],[]⟩) (fun i => i ≤ f.length∧lexC cmpT f g = lexC cmpT (f.drop i) (g.drop i)) (fun i => f.length - i)
   (fun _ => ⟨[],[]⟩) (fun _ => lexC cmpT f g = 0) 0 ⟨Nat.zero_le _,rfl⟩ ?_ ?_ ?_
  ·(repeat' (first|with_reducible refine Qn|((with_reducible refine Qr ?_ ?_);focus (first|with_reducible rfl|(simp only [Zz,Nat.reduceBEq];done)|rfl))|((with_reducible refine Qj (o':=?_) ?_ ?_ ?_);rotate_left 1;focus rfl)|((with_reducible refine Qw ?_ ?_);(focus (first|with_reducible rfl|(simp only [Zv];done)));focus (first|exact id|exact (fun h => nomatch h)|exact (fun _ => rfl)))))
  ·rintro i ⟨hi,hx⟩
   have hw:=w64_succ (n:=i) (by omega)
   by_cases h:i < f.length
   ·have h2:i < g.length:=by omega
    have i1:((i:Int) < (f.length:Int)) = True:=eq_true (by omega)
    have i1':((i:Int) < (g.length:Int)) = True:=eq_true (by omega)
    have i2:((0:Int) ≤ (i:Int)) = True:=eq_true (by omega)
    have hs:=lexC_step (c:=cmpT) h h2
    obtain ⟨t,ht⟩:∃ t,t = f[i]:=⟨_,rfl⟩
    obtain ⟨s,hsd⟩:∃ s,s = g[i]:=⟨_,rfl⟩
    rw [← ht,← hsd] at hs
    have hgt:(f.map eL)[i]? = some [.sl 1 (t.map eI)]:=by rw [map_get h,ht];rfl
    have hgs:(g.map eL)[i]? = some [.sl 1 (s.map eI)]:=by rw [map_get h2,hsd];rfl
    have han:=cmpT_cmp.anti s t
    by_cases c1:cmpT t s < 0
    ·have d1:decide (cmpT t s < 0) = true:=decide_eq_true c1
     rw [hx,hs,if_neg (by omega),sgn_neg c1]
     repeat' (first|with_reducible (first|refine Q1 ?_|refine Q2 ?_|refine Q3 ?_|refine Q4 ?_|refine Q5 ?_|refine Q6 ?_|refine Q7 ?_|refine Q8 ?_|refine Q9 ?_|refine Qa ?_|refine Qb ?_|refine Qc ?_|refine Qd ?_|refine Qe ?_|refine Qf ?_)|((with_reducible refine Qo ?_ ?_);focus rfl)|((with_reducible first|refine QT 6 (l:=?_) ?_ ?_|refine QF 6 (l:=?_) ?_ ?_);rotate_left 1;focus (simp only [Zu,Nat.reduceSub,Nat.reduceBEq];with_reducible rfl))|((with_reducible first|refine QS (cfg_ok 42) TForS (s':=?_) ?_ ?_|refine QC (b:=?_) ?_ ?_);rotate_left 1;focus ((with_reducible refine QW ?_);simp only [Zg,seval,if_true,if_false,reduceCtorEq,Nat.reduceEqDiff,TForS,i1,i1',i2,hgt,hgs,hw,d1,Int.toNat_natCast,List.length_map];with_reducible rfl))|((with_reducible refine QD (cfg_ok 42) TForS mixed_ok (tr:=?_) (s':=?_) ?_ ?_ ?_);rotate_left 2;(focus ((with_reducible refine QW ?_);simp only [Zg,Zd,seval,if_true,if_false,reduceCtorEq,Nat.reduceEqDiff,TForS,i1,i1',i2,hgt,hgs,hw,d1,Int.toNat_natCast,List.length_map];with_reducible rfl));focus ((with_reducible refine QK ?_);simp only [Zk];kernel_rfl)))
     refine roundK.ret ?_
     repeat' (first|with_reducible (first|refine Q1 ?_|refine Q2 ?_|refine Q3 ?_|refine Q4 ?_|refine Q5 ?_|refine Q6 ?_|refine Q7 ?_|refine Q8 ?_|refine Q9 ?_|refine Qa ?_|refine Qb ?_|refine Qc ?_|refine Qd ?_|refine Qe ?_|refine Qf ?_)|((with_reducible refine Qo ?_ ?_);focus rfl)|((with_reducible first|refine QT 6 (l:=?_) ?_ ?_|refine QF 6 (l:=?_) ?_ ?_);rotate_left 1;focus (simp only [Zu,Nat.reduceSub,Nat.reduceBEq];with_reducible rfl))|((with_reducible first|refine QS (cfg_ok 42) TForS (s':=?_) ?_ ?_|refine QC (b:=?_) ?_ ?_);rotate_left 1;focus ((with_reducible refine QW ?_);simp only [Zg,seval,if_true,if_false,reduceCtorEq,Nat.reduceEqDiff,TForS];with_reducible rfl))|((with_reducible refine QD (cfg_ok 42) TForS mixed_ok (tr:=?_) (s':=?_) ?_ ?_ ?_);rotate_left 2;(focus ((with_reducible refine QW ?_);simp only [Zg,Zd,seval,if_true,if_false,reduceCtorEq,Nat.reduceEqDiff,TForS];with_reducible rfl));focus ((with_reducible refine QK ?_);simp only [Zk];kernel_rfl)))
     (refine Ends.mk (by simp) (rs:=?_) (ks:=?_) hres hrts ?_ ?_ ?_;rotate_left 2;(focus (simp only [Ze,Zg,seval,if_true,if_false,reduceCtorEq,Nat.reduceEqDiff];with_reducible rfl));(focus simp);focus (first|with_reducible rfl|(simp only [Zv];done)))
    ·have d1:decide (cmpT t s < 0) = false:=decide_eq_false c1
     by_cases c2:cmpT s t < 0
     ·have d2:decide (cmpT s t < 0) = true:=decide_eq_true c2
      rw [hx,hs,if_neg (by omega),sgn_pos (by omega)]
      repeat' (first|with_reducible (first|refine Q1 ?_|refine Q2 ?_|refine Q3 ?_|refine Q4 ?_|refine Q5 ?_|refine Q6 ?_|refine Q7 ?_|refine Q8 ?_|refine Q9 ?_|refine Qa ?_|refine Qb ?_|refine Qc ?_|refine Qd ?_|refine Qe ?_|refine Qf ?_)|((with_reducible refine Qo ?_ ?_);focus rfl)|((with_reducible first|refine QT 6 (l:=?_) ?_ ?_|refine QF 6 (l:=?_) ?_ ?_);rotate_left 1;focus (simp only [Zu,Nat.reduceSub,Nat.reduceBEq];with_reducible rfl))|((with_reducible first|refine QS (cfg_ok 42) TForS (s':=?_) ?_ ?_|refine QC (b:=?_) ?_ ?_);rotate_left 1;focus ((with_reducible refine QW ?_);simp only [Zg,seval,if_true,if_false,reduceCtorEq,Nat.reduceEqDiff,TForS,i1,i1',i2,hgt,hgs,hw,d1,d2,Int.toNat_natCast,List.length_map];with_reducible rfl))|((with_reducible refine QD (cfg_ok 42) TForS mixed_ok (tr:=?_) (s':=?_) ?_ ?_ ?_);rotate_left 2;(focus ((with_reducible refine QW ?_);simp only [Zg,Zd,seval,if_true,if_false,reduceCtorEq,Nat.reduceEqDiff,TForS,i1,i1',i2,hgt,hgs,hw,d1,d2,Int.toNat_natCast,List.length_map];with_reducible rfl));focus ((with_reducible refine QK ?_);simp only [Zk];kernel_rfl)))
      refine roundK.ret ?_
      repeat' (first|with_reducible (first|refine Q1 ?_|refine Q2 ?_|refine Q3 ?_|refine Q4 ?_|refine Q5 ?_|refine Q6 ?_|refine Q7 ?_|refine Q8 ?_|refine Q9 ?_|refine Qa ?_|refine Qb ?_|refine Qc ?_|refine Qd ?_|refine Qe ?_|refine Qf ?_)|((with_reducible refine Qo ?_ ?_);focus rfl)|((with_reducible first|refine QT 6 (l:=?_) ?_ ?_|refine QF 6 (l:=?_) ?_ ?_);rotate_left 1;focus (simp only [Zu,Nat.reduceSub,Nat.reduceBEq];with_reducible rfl))|((with_reducible first|refine QS (cfg_ok 42) TForS (s':=?_) ?_ ?_|refine QC (b:=?_) ?_ ?_);rotate_left 1;focus ((with_reducible refine QW ?_);simp only [Zg,seval,if_true,if_false,reduceCtorEq,Nat.reduceEqDiff,TForS];with_reducible rfl))|((with_reducible refine QD (cfg_ok 42) TForS mixed_ok (tr:=?_) (s':=?_) ?_ ?_ ?_);rotate_left 2;(focus ((with_reducible refine QW ?_);simp only [Zg,Zd,seval,if_true,if_false,reduceCtorEq,Nat.reduceEqDiff,TForS];with_reducible rfl));focus ((with_reducible refine QK ?_);simp only [Zk];kernel_rfl)))
      (refine Ends.mk (by simp) (rs:=?_) (ks:=?_) hres hrts ?_ ?_ ?_;rotate_left 2;(focus (simp only [Ze,Zg,seval,if_true,if_false,reduceCtorEq,Nat.reduceEqDiff];with_reducible rfl));(focus simp);focus (first|with_reducible rfl|(simp only [Zv];done)))
     ·have d2:decide (cmpT s t < 0) = false:=decide_eq_false c2
      rw [if_pos (by omega)] at hs
      repeat' (first|with_reducible (first|refine Q1 ?_|refine Q2 ?_|refine Q3 ?_|refine Q4 ?_|refine Q5 ?_|refine Q6 ?_|refine Q7 ?_|refine Q8 ?_|refine Q9 ?_|refine Qa ?_|refine Qb ?_|refine Qc ?_|refine Qd ?_|refine Qe ?_|refine Qf ?_)|((with_reducible refine Qo ?_ ?_);focus rfl)|((with_reducible first|refine QT 6 (l:=?_) ?_ ?_|refine QF 6 (l:=?_) ?_ ?_);rotate_left 1;focus (simp only [Zu,Nat.reduceSub,Nat.reduceBEq];with_reducible rfl))|((with_reducible first|refine QS (cfg_ok 42) TForS (s':=?_) ?_ ?_|refine QC (b:=?_) ?_ ?_);rotate_left 1;focus ((with_reducible refine QW ?_);simp only [Zg,seval,if_true,if_false,reduceCtorEq,Nat.reduceEqDiff,TForS,i1,i1',i2,hgt,hgs,hw,d1,d2,Int.toNat_natCast,List.length_map];with_reducible rfl))|((with_reducible refine QD (cfg_ok 42) TForS mixed_ok (tr:=?_) (s':=?_) ?_ ?_ ?_);rotate_left 2;(focus ((with_reducible refine QW ?_);simp only [Zg,Zd,seval,if_true,if_false,reduceCtorEq,Nat.reduceEqDiff,TForS,i1,i1',i2,hgt,hgs,hw,d1,d2,Int.toNat_natCast,List.length_map];with_reducible rfl));focus ((with_reducible refine QK ?_);simp only [Zk];kernel_rfl)))
      refine roundK.on (i + 1) ⟨⟨h,by rw [hx,hs]⟩,by omega⟩ ?_
      (repeat' (first|with_reducible refine Qn|((with_reducible refine Qr ?_ ?_);focus (first|with_reducible rfl|(simp only [Zz,Nat.reduceBEq];done)|rfl))|((with_reducible refine Qj (o':=?_) ?_ ?_ ?_);rotate_left 1;focus rfl)|((with_reducible refine Qw ?_ ?_);(focus (first|with_reducible rfl|(simp only [Zv];done)));focus (first|exact id|exact (fun h => nomatch h)|exact (fun _ => rfl)))))
   ·have i1:((i:Int) < (f.length:Int)) = False:=eq_false (by omega)
    rw [lexC_end0 h (by omega)] at hx
    repeat' (first|with_reducible (first|refine Q1 ?_|refine Q2 ?_|refine Q3 ?_|refine Q4 ?_|refine Q5 ?_|refine Q6 ?_|refine Q7 ?_|refine Q8 ?_|refine Q9 ?_|refine Qa ?_|refine Qb ?_|refine Qc ?_|refine Qd ?_|refine Qe ?_|refine Qf ?_)|((with_reducible refine Qo ?_ ?_);focus rfl)|((with_reducible first|refine QT 6 (l:=?_) ?_ ?_|refine QF 6 (l:=?_) ?_ ?_);rotate_left 1;focus (simp only [Zu,Nat.reduceSub,Nat.reduceBEq];with_reducible rfl))|((with_reducible first|refine QS (cfg_ok 42) TForS (s':=?_) ?_ ?_|refine QC (b:=?_) ?_ ?_);rotate_left 1;focus ((with_reducible refine QW ?_);simp only [Zg,seval,if_true,if_false,reduceCtorEq,Nat.reduceEqDiff,TForS,i1,List.length_map];with_reducible rfl))|((with_reducible refine QD (cfg_ok 42) TForS mixed_ok (tr:=?_) (s':=?_) ?_ ?_ ?_);rotate_left 2;(focus ((with_reducible refine QW ?_);simp only [Zg,Zd,seval,if_true,if_false,reduceCtorEq,Nat.reduceEqDiff,TForS,i1,List.length_map];with_reducible rfl));focus ((with_reducible refine QK ?_);simp only [Zk];kernel_rfl)))
    refine roundK.out () hx ?_
    (repeat' (first|with_reducible refine Qn|((with_reducible refine Qr ?_ ?_);focus (first|with_reducible rfl|(simp only [Zz,Nat.reduceBEq];done)|rfl))|((with_reducible refine Qj (o':=?_) ?_ ?_ ?_);rotate_left 1;focus rfl)|((with_reducible refine Qw ?_ ?_);(focus (first|with_reducible rfl|(simp only [Zv];done)));focus (first|exact id|exact (fun h => nomatch h)|exact (fun _ => rfl)))))
  ·rintro _ h0
   rw [h0,sgn_zero]
   repeat' (first|with_reducible (first|refine Q1 ?_|refine Q2 ?_|refine Q3 ?_|refine Q4 ?_|refine Q5 ?_|refine Q6 ?_|refine Q7 ?_|refine Q8 ?_|refine Q9 ?_|refine Qa ?_|refine Qb ?_|refine Qc ?_|refine Qd ?_|refine Qe ?_|refine Qf ?_)|((with_reducible refine Qo ?_ ?_);focus rfl)|((with_reducible first|refine QT 6 (l:=?_) ?_ ?_|refine QF 6 (l:=?_) ?_ ?_);rotate_left 1;focus (simp only [Zu,Nat.reduceSub,Nat.reduceBEq];with_reducible rfl))|((with_reducible first|refine QS (cfg_ok 42) TForS (s':=?_) ?_ ?_|refine QC (b:=?_) ?_ ?_);rotate_left 1;focus ((with_reducible refine QW ?_);simp only [Zg,seval,if_true,if_false,reduceCtorEq,Nat.reduceEqDiff,TForS];with_reducible rfl))|((with_reducible refine QD (cfg_ok 42) TForS mixed_ok (tr:=?_) (s':=?_) ?_ ?_ ?_);rotate_left 2;(focus ((with_reducible refine QW ?_);simp only [Zg,Zd,seval,if_true,if_false,reduceCtorEq,Nat.reduceEqDiff,TForS];with_reducible rfl));focus ((with_reducible refine QK ?_);simp only [Zk];kernel_rfl)))
   (refine Ends.mk (by simp) (rs:=?_) (ks:=?_) hres hrts ?_ ?_ ?_;rotate_left 2;(focus (simp only [Ze,Zg,seval,if_true,if_false,reduceCtorEq,Nat.reduceEqDiff];with_reducible rfl));(focus simp);focus (first|with_reducible rfl|(simp only [Zv];done)))
 ·have hb:((f.length:Int) != (g.length:Int)) = true:=by simp;omega
  rw [if_neg (by omega)]
  by_cases h2:f.length < g.length
  ·have i1:((f.length:Int) < (g.length:Int)) = True:=eq_true (by omega)
   rw [sgn_neg (by omega)]
   repeat' (first|with_reducible (first|refine Q1 ?_|refine Q2 ?_|refine Q3 ?_|refine Q4 ?_|refine Q5 ?_|refine Q6 ?_|refine Q7 ?_|refine Q8 ?_|refine Q9 ?_|refine Qa ?_|refine Qb ?_|refine Qc ?_|refine Qd ?_|refine Qe ?_|refine Qf ?_)|((with_reducible refine Qo ?_ ?_);focus rfl)|((with_reducible first|refine QT 6 (l:=?_) ?_ ?_|refine QF 6 (l:=?_) ?_ ?_);rotate_left 1;focus (simp only [Zu,Nat.reduceSub,Nat.reduceBEq];with_reducible rfl))|((with_reducible first|refine QS (cfg_ok 42) TForS (s':=?_) ?_ ?_|refine QC (b:=?_) ?_ ?_);rotate_left 1;focus ((with_reducible refine QW ?_);simp only [Zg,seval,if_true,if_false,reduceCtorEq,Nat.reduceEqDiff,TForS,hb,i1,eL,List.length_map];with_reducible rfl))|((with_reducible refine QD (cfg_ok 42) TForS mixed_ok (tr:=?_) (s':=?_) ?_ ?_ ?_);rotate_left 2;(focus ((with_reducible refine QW ?_);simp only [Zg,Zd,seval,if_true,if_false,reduceCtorEq,Nat.reduceEqDiff,TForS,hb,i1,eL,List.length_map];with_reducible rfl));focus ((with_reducible refine QK ?_);simp only [Zk];kernel_rfl)))
   (refine Ends.mk (by simp) (rs:=?_) (ks:=?_) hres hrts ?_ ?_ ?_;rotate_left 2;(focus (simp only [Ze,Zg,seval,if_true,if_false,reduceCtorEq,Nat.reduceEqDiff];with_reducible rfl));(focus simp);focus (first|with_reducible rfl|(simp only [Zv];done)))
  ·have i1:((f.length:Int) < (g.length:Int)) = False:=eq_false (by omega)
   rw [sgn_pos (by omega)]
   repeat' (first|with_reducible (first|refine Q1 ?_|refine Q2 ?_|refine Q3 ?_|refine Q4 ?_|refine Q5 ?_|refine Q6 ?_|refine Q7 ?_|refine Q8 ?_|refine Q9 ?_|refine Qa ?_|refine Qb ?_|refine Qc ?_|refine Qd ?_|refine Qe ?_|refine Qf ?_)|((with_reducible refine Qo ?_ ?_);focus rfl)|((with_reducible first|refine QT 6 (l:=?_) ?_ ?_|refine QF 6 (l:=?_) ?_ ?_);rotate_left 1;focus (simp only [Zu,Nat.reduceSub,Nat.reduceBEq];with_reducible rfl))|((with_reducible first|refine QS (cfg_ok 42) TForS (s':=?_) ?_ ?_|refine QC (b:=?_) ?_ ?_);rotate_left 1;focus ((with_reducible refine QW ?_);simp only [Zg,seval,if_true,if_false,reduceCtorEq,Nat.reduceEqDiff,TForS,hb,i1,eL,List.length_map];with_reducible rfl))|((with_reducible refine QD (cfg_ok 42) TForS mixed_ok (tr:=?_) (s':=?_) ?_ ?_ ?_);rotate_left 2;(focus ((with_reducible refine QW ?_);simp only [Zg,Zd,seval,if_true,if_false,reduceCtorEq,Nat.reduceEqDiff,TForS,hb,i1,eL,List.length_map];with_reducible rfl));focus ((with_reducible refine QK ?_);simp only [Zk];kernel_rfl)))
   (refine Ends.mk (by simp) (rs:=?_) (ks:=?_) hres hrts ?_ ?_ ?_;rotate_left 2;(focus (simp only [Ze,Zg,seval,if_true,if_false,reduceCtorEq,Nat.reduceEqDiff];with_reducible rfl));(focus simp);focus (first|with_reducible rfl|(simp only [Zv];done)))
end Go.Proofs.Ytofpjonggpjneaa
